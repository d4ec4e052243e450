/- A delay of one sample: stepped. Condition: its ring holds one sample. -/
import Derived.Test.YtopkehknaclhlaaFg
import Derived.Test.YtopkehknaclhlaaDl
import Derived.Test.YtopkehknaclhlaaUt
namespace Go.Proofs.Ytopkehknaclhlaa
open Go Go.RowKit

theorem ok_one (x y : Nat) : OkRing [(x, y)] 0 1 := by
  refine ⟨by simp, by simp, by simp, by simp, fun i hi hl => ?_⟩
  simp at hl
  omega

/-- A delay of one sample. -/
def DL1 (w : World) (base : Nat) (m : Array Value) (x y : Nat) : Prop := ∃ g c, m = #[.int .i64 (4), .complex .f32 0 0, .complex .f32 0 0, .float .f32 0, .slice (some ⟨g, 0, none⟩) 1 c, .int .i64 (0), .int .i64 (1), .slice none 0 0, .slice none 0 0, .int .i64 (0), .int .i64 (0)] ∧ base ≤ g ∧ OwnC w base (.slice (some ⟨g, 0, none⟩) 1 c) [(x, y)]

set_option maxRecDepth 100000 in
set_option maxHeartbeats 4000000 in
theorem step_delay (w : World) (b g c x1 x2 z1 z2 : Nat) (arr : Array Value) (hgb : g ≠ b) (hb : w.heap[b]? = some (.cells #[.int .i64 (4), .complex .f32 0 0, .complex .f32 0 0, .float .f32 0, .slice (some ⟨g, 0, none⟩) 1 c, .int .i64 (0), .int .i64 (1), .slice none 0 0, .slice none 0 0, .int .i64 (0), .int .i64 (0)] 38 (0, 0))) (hg : w.heap[g]? = some (.cells arr 33 (0, 0))) (h0 : arr[0]? = some (.complex .f32 x1 x2)) :
    Calls Try.prog 123 #[.pointer (some ⟨b, 0, none⟩), .complex .f32 z1 z2] w (fun e w' => e = .returned (.complex .f32 x1 x2) ∧ w'.heap[b]? = some (.cells #[.int .i64 (4), .complex .f32 0 0, .complex .f32 0 0, .float .f32 0, .slice (some ⟨g, 0, none⟩) 1 c, .int .i64 (0), .int .i64 (1), .slice none 0 0, .slice none 0 0, .int .i64 (0), .int .i64 (0)] 38 (0, 0)) ∧ w'.heap[g]? = some (.cells (arr.setIfInBounds 0 (.complex .f32 z1 z2)) 33 (0, 0)) ∧ Chg (fun k => k = b ∨ k = g) w w') := by
  have HB := hid hb
  have HG := hid hg
  have kb := cells_at hb
  have fb := frees_at hb
  have kg : w.cell? ⟨g, 0, none⟩ = some (.complex .f32 x1 x2) := by rw [cell_at hg, h0]
  have fg := frees_at hg
  have hgb' : b ≠ g := fun e => hgb e.symm
  clear hb hg h0
  go_enter Try.func123, Try.ntmps123
  go_wp2_with fail
  go_quiet (fail)
  go_wp2_with fail
  go_region_with (fail)
  all_goals
    go_wp2_with fail
    go_region_with (fail)
  all_goals
    go_wp2_with fail
    go_ret
    refine ⟨rfl, ?_, ?_, ?_⟩
    · have e := heap_set (v := .int .i64 0) (k := 5) (((Chg.refl (fun k => k = g) w).setCell (p := ⟨g, 0, none⟩) (.inl rfl) (.complex .f32 z1 z2)).heap HB.out hgb')
      exact e
    · exact ((Chg.refl (fun k => k = b) (w.setCell ⟨g, 0, none⟩ (.complex .f32 z1 z2))).setCell (p := ⟨b, 5, none⟩) (.inl rfl) (.int .i64 0)).heap (heap_set (v := .complex .f32 z1 z2) (k := 0) HG.out) hgb
    · repeat (first | (with_reducible exact Chg.refl _ _) | (with_reducible refine Chg.drew ?_) | (with_reducible refine Chg.drewN ?_ _) | (with_reducible refine Chg.setCell ?_ ?_ _; rotate_left; (first | exact .inl (.inl rfl) | exact .inl (.inr rfl))))

/-- The stepped delay, the sample and true come back. -/
def RDel1 (w : World) (x y z1 z2 : Nat) (e : Ending) (w' : World) : Prop := ∃ m, e = .returned (.tuple #[.agg m, .complex .f32 x y, .bool true]) ∧ DL1 w' w.heap.size m z1 z2 ∧ Chg (fun _ => False) w w'

set_option maxRecDepth 100000 in
set_option maxHeartbeats 4000000 in
theorem StepModule_delay (w : World) (m : Array Value) (x1 x2 z1 z2 : Nat) (hm : DL1 w 0 m x1 x2) : Calls Try.prog 66 #[.agg m, .complex .f32 z1 z2] w (RDel1 w x1 x2 z1 z2) := by
  obtain ⟨g, c, rfl, _, ho⟩ := hm
  have HO := hid ho
  clear ho
  go_enter Try.func66, Try.ntmps66
  go_wp2_with fail
  refine (IsModule_delay _ g 1 c 0 [(x1, x2)] rfl (HO.out.chg (((Chg.refl (fun _ => False) w).alloc _).alloc _) fun _ _ _ h => h) (ok_one x1 x2)).mono ?_
  rintro e w1 ⟨rfl, g1⟩
  have g0 := hid (((Chg.refl (fun _ => False) w).alloc _).alloc _ |>.trans g1 fun _ _ h => h)
  have B1 := g1.heap (heap_old (heap_new w _)) id
  have F1 := hid (g1.heap (heap_new' (w := w.alloc _) (b := w.heap.size + 1) (by simp)) id)
  have k1 := cells_at B1
  have lz1 := g1.size
  simp at lz1
  clear B1 g1
  go_wp2_with fail
  refine (copyModule_calls _ 4 0 0 0 0 0 _ 0 1 _ _ 0 0 [(x1, x2)] [] [] (by simp) (by decide) (by decide) (HO.out.chg g0.out fun _ _ _ h => h) (OwnC.nil _ _) (OwnI.nil _ _)).mono ?_
  rintro e w2 ⟨b1, d1, b2, d2, b3, d3, rfl, o1, o2, o3, m1, m2, m3, g2⟩
  obtain ⟨rfl, rfl⟩ := m2 rfl
  obtain ⟨rfl, rfl⟩ := m3 rfl
  simp only [List.length_nil, List.length_cons, Nat.zero_add] at o1 ⊢
  obtain ⟨_, hown⟩ := o1
  rcases hown with ⟨_, h2⟩ | ⟨q, cap, arr, hv, hq, hqh, hr⟩
  · simp at h2
  simp at hv
  obtain ⟨rfl, rfl⟩ := hv
  obtain ⟨hc1, hc2, hsz, htk⟩ := hr
  have h0 : arr[0]? = some (.complex .f32 x1 x2) := by
    have e := congrArg (fun l => l[0]?) htk
    simpa [cx] using e
  have lq := heap_lt hqh
  have HQ := hid hqh
  have HS := hid hsz
  have H0 := hid h0
  clear hqh hsz htk h0 m1 m2 m3 o2 o3
  have g02 := hid (g0.out.trans g2 fun _ _ h => h)
  have F2 := hid (g2.heap F1.out id)
  have lz2 := g2.size
  clear k1 F1 g0 g2
  have N3 := hid (heap_new w2 (.cells #[.int .i64 (4), .complex .f32 0 0, .complex .f32 0 0, .float .f32 0, .slice (some ⟨q, 0, none⟩) 1 d1, .int .i64 (0), .int .i64 (1), .slice none 0 0, .slice none 0 0, .int .i64 (0), .int .i64 (0)] 38))
  have Q3 := hid (heap_old (o' := .cells #[.int .i64 (4), .complex .f32 0 0, .complex .f32 0 0, .float .f32 0, .slice (some ⟨q, 0, none⟩) 1 d1, .int .i64 (0), .int .i64 (1), .slice none 0 0, .slice none 0 0, .int .i64 (0), .int .i64 (0)] 38) HQ.out)
  have F3 := hid (heap_old (o' := .cells #[.int .i64 (4), .complex .f32 0 0, .complex .f32 0 0, .float .f32 0, .slice (some ⟨q, 0, none⟩) 1 d1, .int .i64 (0), .int .i64 (1), .slice none 0 0, .slice none 0 0, .int .i64 (0), .int .i64 (0)] 38) F2.out)
  have g3 := hid (g02.out.alloc (.cells #[.int .i64 (4), .complex .f32 0 0, .complex .f32 0 0, .float .f32 0, .slice (some ⟨q, 0, none⟩) 1 d1, .int .i64 (0), .int .i64 (1), .slice none 0 0, .slice none 0 0, .int .i64 (0), .int .i64 (0)] 38))
  have nq : q ≠ w2.heap.size := by omega
  clear F2 g02
  go_wp2_with fail
  refine (step_delay _ _ q d1 x1 x2 z1 z2 arr nq N3.out Q3.out H0.out).mono ?_
  rintro e w4 ⟨rfl, m4, q4, g4⟩
  have lz4 := g4.size
  simp at lz4
  have F4 := hid (g4.heap F3.out (by omega))
  have M4 := hid m4
  have Q4 := hid q4
  have k4 := cells_at m4
  have f4 := frees_at F4.out
  have k5 := cells_at F4.out
  clear N3 F3 Q3 m4 q4
  go_wp2_with fail
  have GS := chg_row11 w4 (w.heap.size + 1) (.int .i64 4) (.complex .f32 0 0) (.complex .f32 0 0) (.float .f32 0) (.slice (some ⟨q, 0, none⟩) 1 d1) (.int .i64 0) (.int .i64 1) (.slice none 0 0) (.slice none 0 0) (.int .i64 0) (.int .i64 0)
  refine bodyPost_ret (results_row_tmp2 (by rfl) _ _ _ (w.heap.size + 1) _ (.complex .f32 x1 x2) (.bool true) rfl (load_mod (heap_row11 F4.out _ _ _ _ _ _ _ _ _ _ _) rfl) rfl rfl) rfl ⟨_, rfl, ⟨q, d1, rfl, by omega, ?_⟩, ?_⟩
  · refine ⟨by simp, .inr ⟨q, d1, _, by simp, by omega, GS.heap Q4.out (by omega), hc1, hc2, by have := HS.out; simp [this], ?_⟩⟩
    have hs := HS.out
    have hpos : 0 < arr.size := by simp at hc1; omega
    cases harr : arr.toList with
    | nil =>
      have e2 : arr.toList.length = 0 := by rw [harr]; rfl
      rw [Array.length_toList] at e2
      omega
    | cons u us => simp [harr, cx]
  · exact (g3.out.trans g4 (fun k h1 h2 => by omega)).trans GS (fun k h1 h2 => by omega)
end Go.Proofs.Ytopkehknaclhlaa
