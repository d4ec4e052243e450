/- The reference's new pool; appending to any lease. Conditions: at most 256 samples; the pool is valid. -/
import Derived.Test.YtopkehknaclhlaaPm
namespace Go.Proofs.Ytopkehknaclhlaa
open Go Go.RowKit

theorem AppendToS_calls (w : World) (s v u : Value) (xs ys : List (Nat × Nat)) (ls : List Ls) (id : Nat) (ho : OwnC w 0 s xs) (hv : OwnL w 0 v ls) (hu : OwnC w 0 u ys) (hp : POk xs.length ls) (hy9 : ys.length ≤ 1000) :
    Calls Try.prog 58 #[.agg #[s, v], .int .i64 (id : Int), u] w (RPb w (appP xs ls id ys)) := by
  cases hl : lentB ls id
  · have e : appP xs ls id ys = none := by
      unfold appP
      unfold lentB at hl
      cases hq : ls[id]? with
      | none => rfl
      | some l =>
        rw [hq] at hl
        simp at hl
        simp [hl]
    rw [e]
    exact AppendToS_no w s v u xs ys ls id ho hv hu hp hl
  · exact AppendToS_yes w s v u xs ys ls id ho hv hu hp hl hy9

/-- A new pool of n zeros comes back, and true. -/
def RNewP (w : World) (n : Nat) (e : Ending) (w' : World) : Prop :=
  ∃ a c, e = .returned (.tuple #[.agg #[.slice a n c, .slice none 0 0], .bool true]) ∧ OwnC w' w.heap.size (.slice a n c) (List.replicate n (0, 0)) ∧ Chg (fun _ => False) w w'

set_option maxHeartbeats 400000 in
theorem NewPoolS_calls (w : World) (n : Nat) (h2 : n ≤ 256) : Calls Try.prog 142 #[.int .i64 (n : Int)] w (RNewP w n) := by
  have hmk := fun w => run_make25 w n (by omega)
  go_enter Try.func142, Try.ntmps142
  go_wp2_with (go_at_call 85; refine (l1In_yes _ _ _ _ (by omega) (by omega)).mono ?_; rintro e w' ⟨rfl, rfl⟩)
  refine bodyPost_ret (v := .tuple #[.agg #[.slice (some ⟨w.heap.size + 1, 0, none⟩) n n, .slice none 0 0], .bool true]) (by simp [results, Try.results142, go_sem]) rfl ⟨_, _, rfl, ?_, ((Chg.refl _ w).alloc _).alloc _⟩
  have h := OwnC.lit (w.alloc (.cells #[.slice (some ⟨w.heap.size + 1, 0, none⟩) n n, .slice none 0 0] 67)) (List.replicate n (0, 0)) 33 rfl (by simp; omega) (base := w.heap.size) (by simp) (Array.replicate n (.complex .f32 0 0)) (by simp; exact .inr rfl)
  simpa using h
end Go.Proofs.Ytopkehknaclhlaa
