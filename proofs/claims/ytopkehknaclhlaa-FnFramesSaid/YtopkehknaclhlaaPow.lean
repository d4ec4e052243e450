/- The powers of a kind, in the program and in the reference: the same three bools, for every kind. -/
import Derived.Test.YtopkehknaclhlaaBase
namespace Go.Proofs.Ytopkehknaclhlaa
open Go Go.RowKit

/-- slices.Index: at least 0 just where the number is in the list. -/
def RIdx (w : World) (zs : List Int) (v : Int) (e : Ending) (w' : World) : Prop :=
  ∃ r : Int, (decide (0 ≤ r) = decide (v ∈ zs)) ∧ -1 ≤ r ∧ r ≤ 1000 ∧ e = .returned (.int .i64 r) ∧ w = w'

set_option maxHeartbeats 400000 in
theorem Index_calls (w : World) (b : Nat) (zs : List Int) (T : TypeId) (v : Int) (hb : w.heap[b]? = some (.cells (zs.map (Value.int .i64)).toArray T (0, 0))) (h2 : zs.length ≤ 100) :
    Calls Try.prog 132 #[.slice (some ⟨b, 0, none⟩) zs.length zs.length, .int .i64 v] w (RIdx w zs v) := by
  have HB := hid hb
  clear hb
  go_enter Try.func132, Try.ntmps132
  go_wp2
  go_loop [8] (fun i => ∃ k : Nat, k ≤ zs.length ∧ i = .int .i64 (k : Int) ∧ Hid (v ∉ zs.take k)) (fun i => zs.length - (intOf i).toNat)
  case atStart => exact ⟨0, by omega, rfl, hid (by simp)⟩
  case round =>
    obtain ⟨k, hk, rfl, hno⟩ := hrel
    by_cases hlt : k < zs.length
    · have hlt' : (k : Int) < (zs.length : Int) := by omega
      have hcell : w.cell? ⟨b, k, none⟩ = some (.int .i64 zs[k]) := by
        rw [cell_at HB.out]
        simp [hlt]
      generalize hz : zs[k] = z at hcell
      have HZ := hid hz
      clear hz
      by_cases he : v = z
      · have he' : (v == z) = true := by simpa using he
        have HE := hid he
        clear he
        go_wp2
        go_ret
        exact ⟨k, by have : v ∈ zs := by rw [HE.out, ← HZ.out]; exact List.getElem_mem hlt
                     simp [this], by omega, by omega, rfl, rfl⟩
      · have he' : (v == z) = false := by simpa using he
        have HE := hid he
        clear he
        go_wp2
        go_round
        case rel => exact ⟨k + 1, by omega, by go_num, hid (by
          rw [List.take_succ_eq_append_getElem hlt, HZ.out]
          simp [hno.out, HE.out])⟩
        case measure => simp [intOf]; omega
    · have hlt' : ¬ (k : Int) < (zs.length : Int) := by omega
      go_wp2
      go_ret
      exact ⟨-1, by have := hno.out; rw [List.take_of_length_le (by omega)] at this; simp [this], by omega, by omega, rfl, rfl⟩

set_option maxHeartbeats 400000 in
theorem Contains_calls (w : World) (b : Nat) (zs : List Int) (T : TypeId) (v : Int) (n : Nat) (hn : n = zs.length) (arr : Array Value) (ha : arr.toList = zs.map (Value.int .i64)) (hb : w.heap[b]? = some (.cells arr T (0, 0))) (h2 : zs.length ≤ 100) (m : Bool) (hm : m = decide (v ∈ zs)) :
    Calls Try.prog 84 #[.slice (some ⟨b, 0, none⟩) n n, .int .i64 v] w fun e w' => e = .returned (.bool m) ∧ w = w' := by
  have HM := hid hm
  clear hm
  obtain rfl : arr = (zs.map (Value.int .i64)).toArray := by rw [← ha]
  subst hn
  have HB := hid hb
  clear hb ha
  go_enter Try.func84, Try.ntmps84
  go_wp2_with fail
  refine (Index_calls w b zs T v HB.out h2).mono ?_
  rintro e w' ⟨r, hr, hr1, hr2, rfl, rfl⟩
  have HR := hid hr
  clear hr
  go_wp2_with fail
  go_ret
  exact ⟨by rw [HM.out, ← HR.out]; rfl, rfl⟩

def pw1 (k : Int) : Bool := decide (k ∈ [2, 4, 6, 7, 8])
def pw2 (k : Int) : Bool := decide (k ∈ [1, 2, 3])
def pw3 (k : Int) : Bool := decide (k ∈ [1, 2, 6, 7, 8])

/-- The three powers come back; new blocks alone. -/
def RPow (w : World) (k : Int) (e : Ending) (w' : World) : Prop :=
  e = .returned (.tuple #[.bool (pw1 k), .bool (pw2 k), .bool (pw3 k)]) ∧ Chg (fun _ => False) w w'

set_option maxRecDepth 100000 in
set_option maxHeartbeats 400000 in
theorem PowersOf_calls (w : World) (k : Int) : Calls Try.prog 21 #[.int .i64 k] w (RPow w k) := by
  go_enter Try.func21, Try.ntmps21
  go_wp2_with fail
  refine (Contains_calls _ _ [2, 4, 6, 7, 8] _ k 5 rfl _ rfl (heap_new' (by simp)) (by decide) (pw1 k) rfl).mono ?_
  rintro e w' ⟨rfl, rfl⟩
  go_wp2_with fail
  refine (Contains_calls _ _ [1, 2, 3] _ k 3 rfl _ rfl (heap_new' (by simp)) (by decide) (pw2 k) rfl).mono ?_
  rintro e w' ⟨rfl, rfl⟩
  go_wp2_with fail
  refine (Contains_calls _ _ [1, 2, 6, 7, 8] _ k 5 rfl _ rfl (heap_new' (by simp)) (by decide) (pw3 k) rfl).mono ?_
  rintro e w' ⟨rfl, rfl⟩
  go_wp2_with fail
  go_ret3
  exact ⟨rfl, (((Chg.refl _ w).alloc _).alloc _).alloc _⟩

set_option maxHeartbeats 1000000 in
theorem specPowersOf_calls (w : World) (k : Int) : Calls Try.prog 20 #[.int .i64 k] w (RPow w k) := by
  go_enter Try.func20, Try.ntmps20
  go_wp2_with fail
  all_goals go_ret3
  all_goals refine ⟨?_, Chg.refl _ w⟩
  all_goals simp_all [pw1, pw2, pw3]

set_option maxHeartbeats 1000000 in
theorem walkFnExactPowersOf (w : World) (k : Int) (_h1 : -9223372036854775808 ≤ k) (_h2 : k ≤ 9223372036854775807) : Calls Try.prog 3 #[.int .i64 k] w (LawPost w) := by
  go_enter Try.func3, Try.ntmps3
  go_wp2_with fail
  refine (specPowersOf_calls _ k).mono ?_
  rintro e w1 ⟨rfl, g1⟩
  go_wp2_with fail
  refine (PowersOf_calls _ k).mono ?_
  rintro e w2 ⟨rfl, g2⟩
  go_wp2_with fail
  go_ret
  exact ⟨rfl, g1.trans g2 fun _ _ h => h⟩

end Go.Proofs.Ytopkehknaclhlaa
