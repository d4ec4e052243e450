/- The exact laws on new sums, meters and gains, walked: the program's module is the reference's. No condition. -/
import Derived.Test.YtopkehknaclhlaaRg
import Derived.Test.YtopkehknaclhlaaFx
namespace Go.Proofs.Ytopkehknaclhlaa
open Go Go.RowKit

set_option maxHeartbeats 400000 in
theorem eqI_nil (w : World) : Calls Try.prog 133 #[.slice none 0 0, .slice none 0 0] w (RTrue w) := by
  go_enter Try.func133, Try.ntmps133
  go_wp2
  go_loop [5] (fun i => i = .int .i64 0) (fun i => 0)
  case atStart => rfl
  case round =>
    obtain rfl := hrel
    go_wp2
    go_ret
    exact ⟨rfl, 0, rfl⟩

set_option maxHeartbeats 400000 in
theorem markI_nil (w : World) (k : Int) : Calls Try.prog 134 #[.slice none 0 0, .int .i64 k] w (fun e w' => e = .returned (.int .i64 k) ∧ w = w') := by
  go_enter Try.func134, Try.ntmps134
  go_wp2
  go_loop [1, 5] (fun q i => i = .int .i64 0 ∧ q = .int .i64 k) (fun _ i => 0)
  case atStart => exact ⟨rfl, rfl⟩
  case round =>
    obtain ⟨rfl, rfl⟩ := hrel
    go_wp2
    go_ret
    exact ⟨rfl, rfl⟩

set_option maxHeartbeats 400000 in
theorem heldI_nil (w : World) (k : Int) : Calls Try.prog 135 #[.slice none 0 0, .int .i64 k] w (fun e w' => e = .returned (.int .i64 k) ∧ w = w') := by
  go_enter Try.func135, Try.ntmps135
  go_wp2
  go_loop [1, 5] (fun q i => i = .int .i64 0 ∧ q = .int .i64 k) (fun _ i => 0)
  case atStart => exact ⟨rfl, rfl⟩
  case round =>
    obtain ⟨rfl, rfl⟩ := hrel
    go_wp2
    go_ret
    exact ⟨rfl, rfl⟩

set_option maxHeartbeats 400000 in
theorem eqTable_nil (w : World) : Calls Try.prog 91 #[.agg #[.slice none 0 0, .slice none 0 0], .agg #[.slice none 0 0, .slice none 0 0]] w (RT w) := by
  go_enter Try.func91, Try.ntmps91
  go_wp2_with fail
  refine (eqC_nil _).mono ?_
  rintro e w1 ⟨rfl, m, rfl⟩
  go_wp2_with fail
  refine (eqI_nil _).mono ?_
  rintro e w1 ⟨rfl, m', rfl⟩
  go_wp2_with fail
  go_ret
  exact ⟨rfl, (((Chg.refl _ w).alloc _).alloc _).drewN _⟩

set_option maxHeartbeats 400000 in
theorem markTable_nil (w : World) (k : Int) : Calls Try.prog 92 #[.agg #[.slice none 0 0, .slice none 0 0], .int .i64 k] w (fun e w' => e = .returned (.int .i64 k) ∧ Chg (fun _ => False) w w') := by
  go_enter Try.func92, Try.ntmps92
  go_wp2_with fail
  refine (markC_nil _ k).mono ?_
  rintro e w1 ⟨rfl, rfl⟩
  go_wp2_with fail
  refine (markI_nil _ k).mono ?_
  rintro e w1 ⟨rfl, rfl⟩
  go_wp2_with fail
  go_ret
  exact ⟨rfl, (Chg.refl _ w).alloc _⟩

set_option maxHeartbeats 400000 in
theorem heldTable_nil (w : World) (k : Int) (k0 : 0 ≤ k) : Calls Try.prog 93 #[.agg #[.slice none 0 0, .slice none 0 0], .int .i64 k] w (fun e w' => e = .returned (.int .i64 k) ∧ Chg (fun _ => False) w w') := by
  go_enter Try.func93, Try.ntmps93
  go_wp2_with fail
  refine (heldC_nil _ k).mono ?_
  rintro e w1 ⟨rfl, rfl⟩
  go_wp2_with fail
  refine (heldI_nil _ k).mono ?_
  rintro e w1 ⟨rfl, rfl⟩
  go_wp2_with fail
  go_ret
  exact ⟨rfl, (Chg.refl _ w).alloc _⟩

set_option maxHeartbeats 1000000 in
theorem eqModule_nil (w : World) (kind x y ct lf : Int) (t1 t2 s1 s2 lv : Nat) : Calls Try.prog 29 #[.agg #[.int .i64 (kind), .complex .f32 t1 t2, .complex .f32 s1 s2, .float .f32 lv, .slice none 0 0, .int .i64 (x), .int .i64 (y), .slice none 0 0, .slice none 0 0, .int .i64 (ct), .int .i64 (lf)], .agg #[.int .i64 (kind), .complex .f32 t1 t2, .complex .f32 s1 s2, .float .f32 lv, .slice none 0 0, .int .i64 (x), .int .i64 (y), .slice none 0 0, .slice none 0 0, .int .i64 (ct), .int .i64 (lf)]] w (RT w) := by
  go_enter Try.func29, Try.ntmps29
  go_wp2_with fail
  refine (sameComplex_calls _ _ _ _ _ (sameF_conv _ _ _) (sameF_conv _ _ _)).mono ?_
  rintro e w1 ⟨rfl, m1, rfl⟩
  go_wp2_with fail
  refine (sameComplex_calls _ _ _ _ _ (sameF_conv _ _ _) (sameF_conv _ _ _)).mono ?_
  rintro e w1 ⟨rfl, m2, rfl⟩
  go_wp2_with fail
  refine (sameFloat_calls _ _ _ (sameF_conv _ _ _)).mono ?_
  rintro e w1 ⟨rfl, m3, rfl⟩
  go_wp2_with fail
  refine (eqRing_nil _ x y).mono ?_
  rintro e w2 ⟨rfl, g2⟩
  have hs2 := g2.size
  simp at hs2
  have c1 := cells_at (g2.heap (heap_old (heap_new w _)) id)
  have c2 := cells_at (g2.heap (heap_new' (b := w.heap.size + 1) (by simp)) id)
  go_wp2_with fail
  refine (eqTable_nil _).mono ?_
  rintro e w3 ⟨rfl, g3⟩
  have d1 := cells_at (g3.heap (g2.heap (heap_old (heap_new w _)) id) id)
  have d2 := cells_at (g3.heap (g2.heap (heap_new' (b := w.heap.size + 1) (by simp)) id) id)
  clear c1 c2
  go_wp2_with fail
  go_ret
  exact ⟨rfl, (((((Chg.refl _ w).alloc _).alloc _).drewN _).trans g2 fun _ _ h => h).trans g3 fun _ _ h => h⟩

set_option maxHeartbeats 1000000 in
theorem markModule_nil (w : World) (kind x y ct lf k : Int) (t1 t2 s1 s2 lv : Nat) : Calls Try.prog 30 #[.agg #[.int .i64 (kind), .complex .f32 t1 t2, .complex .f32 s1 s2, .float .f32 lv, .slice none 0 0, .int .i64 (x), .int .i64 (y), .slice none 0 0, .slice none 0 0, .int .i64 (ct), .int .i64 (lf)], .int .i64 k] w (fun e w' => e = .returned (.int .i64 k) ∧ Chg (fun _ => False) w w') := by
  go_enter Try.func30, Try.ntmps30
  go_wp2_with fail
  refine (markRing_nil _ x y k).mono ?_
  rintro e w1 ⟨rfl, g1⟩
  have s1' := g1.size
  have c1 := cells_at (g1.heap (heap_new w _) id)
  go_wp2_with fail
  refine (markTable_nil _ k).mono ?_
  rintro e w2 ⟨rfl, g2⟩
  go_wp2_with fail
  go_ret
  exact ⟨rfl, (((Chg.refl _ w).alloc _).trans g1 fun _ _ h => h).trans g2 fun _ _ h => h⟩

set_option maxHeartbeats 1000000 in
theorem heldModule_nil (w : World) (kind x y ct lf k : Int) (t1 t2 s1 s2 lv : Nat) (k0 : 0 ≤ k) : Calls Try.prog 31 #[.agg #[.int .i64 (kind), .complex .f32 t1 t2, .complex .f32 s1 s2, .float .f32 lv, .slice none 0 0, .int .i64 (x), .int .i64 (y), .slice none 0 0, .slice none 0 0, .int .i64 (ct), .int .i64 (lf)], .int .i64 k] w (fun e w' => e = .returned (.int .i64 k) ∧ Chg (fun _ => False) w w') := by
  go_enter Try.func31, Try.ntmps31
  go_wp2_with fail
  refine (heldRing_nil _ x y k k0).mono ?_
  rintro e w1 ⟨rfl, g1⟩
  have s1' := g1.size
  have c1 := cells_at (g1.heap (heap_new w _) id)
  go_wp2_with fail
  refine (heldTable_nil _ k k0).mono ?_
  rintro e w2 ⟨rfl, g2⟩
  go_wp2_with fail
  go_ret
  exact ⟨rfl, (((Chg.refl _ w).alloc _).trans g1 fun _ _ h => h).trans g2 fun _ _ h => h⟩

set_option maxHeartbeats 400000 in
theorem specNewSum_calls (w : World) : Calls Try.prog 34 #[] w (fun e w' => e = .returned (.agg #[.int .i64 (5), .complex .f32 0 0, .complex .f32 0 0, .float .f32 0, .slice none 0 0, .int .i64 (0), .int .i64 (0), .slice none 0 0, .slice none 0 0, .int .i64 (0), .int .i64 (0)]) ∧ Chg (fun _ => False) w w') := by
  go_enter Try.func34, Try.ntmps34
  go_wp2
  exact bodyPost_ret (v := .agg #[.int .i64 (5), .complex .f32 0 0, .complex .f32 0 0, .float .f32 0, .slice none 0 0, .int .i64 (0), .int .i64 (0), .slice none 0 0, .slice none 0 0, .int .i64 (0), .int .i64 (0)]) (by simp [results, Try.results34, go_sem]) rfl ⟨rfl, (Chg.refl _ w).alloc _⟩

set_option maxHeartbeats 400000 in
theorem NewSum_calls (w : World) : Calls Try.prog 35 #[] w (fun e w' => e = .returned (.agg #[.int .i64 (5), .complex .f32 0 0, .complex .f32 0 0, .float .f32 0, .slice none 0 0, .int .i64 (0), .int .i64 (0), .slice none 0 0, .slice none 0 0, .int .i64 (0), .int .i64 (0)]) ∧ Chg (fun _ => False) w w') := by
  go_enter Try.func35, Try.ntmps35
  go_wp2
  exact bodyPost_ret (v := .agg #[.int .i64 (5), .complex .f32 0 0, .complex .f32 0 0, .float .f32 0, .slice none 0 0, .int .i64 (0), .int .i64 (0), .slice none 0 0, .slice none 0 0, .int .i64 (0), .int .i64 (0)]) (by simp [results, Try.results35, go_sem]) rfl ⟨rfl, (Chg.refl _ w).alloc _⟩

set_option maxHeartbeats 400000 in
theorem specNewMeter_calls (w : World) : Calls Try.prog 32 #[] w (fun e w' => e = .returned (.agg #[.int .i64 (7), .complex .f32 0 0, .complex .f32 0 0, .float .f32 0, .slice none 0 0, .int .i64 (0), .int .i64 (0), .slice none 0 0, .slice none 0 0, .int .i64 (0), .int .i64 (0)]) ∧ Chg (fun _ => False) w w') := by
  go_enter Try.func32, Try.ntmps32
  go_wp2
  exact bodyPost_ret (v := .agg #[.int .i64 (7), .complex .f32 0 0, .complex .f32 0 0, .float .f32 0, .slice none 0 0, .int .i64 (0), .int .i64 (0), .slice none 0 0, .slice none 0 0, .int .i64 (0), .int .i64 (0)]) (by simp [results, Try.results32, go_sem]) rfl ⟨rfl, (Chg.refl _ w).alloc _⟩

set_option maxHeartbeats 400000 in
theorem NewMeter_calls (w : World) : Calls Try.prog 33 #[] w (fun e w' => e = .returned (.agg #[.int .i64 (7), .complex .f32 0 0, .complex .f32 0 0, .float .f32 0, .slice none 0 0, .int .i64 (0), .int .i64 (0), .slice none 0 0, .slice none 0 0, .int .i64 (0), .int .i64 (0)]) ∧ Chg (fun _ => False) w w') := by
  go_enter Try.func33, Try.ntmps33
  go_wp2
  exact bodyPost_ret (v := .agg #[.int .i64 (7), .complex .f32 0 0, .complex .f32 0 0, .float .f32 0, .slice none 0 0, .int .i64 (0), .int .i64 (0), .slice none 0 0, .slice none 0 0, .int .i64 (0), .int .i64 (0)]) (by simp [results, Try.results33, go_sem]) rfl ⟨rfl, (Chg.refl _ w).alloc _⟩

set_option maxHeartbeats 400000 in
theorem specNewGain_calls (w : World) (lv : Nat) : Calls Try.prog 27 #[.float .f32 lv] w (fun e w' => e = .returned (.agg #[.int .i64 (3), .complex .f32 0 0, .complex .f32 0 0, .float .f32 lv, .slice none 0 0, .int .i64 (0), .int .i64 (0), .slice none 0 0, .slice none 0 0, .int .i64 (0), .int .i64 (0)]) ∧ Chg (fun _ => False) w w') := by
  go_enter Try.func27, Try.ntmps27
  go_wp2
  exact bodyPost_ret (v := .agg #[.int .i64 (3), .complex .f32 0 0, .complex .f32 0 0, .float .f32 lv, .slice none 0 0, .int .i64 (0), .int .i64 (0), .slice none 0 0, .slice none 0 0, .int .i64 (0), .int .i64 (0)]) (by simp [results, Try.results27, go_sem]) rfl ⟨rfl, (Chg.refl _ w).alloc _⟩

set_option maxHeartbeats 400000 in
theorem NewGain_calls (w : World) (lv : Nat) : Calls Try.prog 28 #[.float .f32 lv] w (fun e w' => e = .returned (.agg #[.int .i64 (3), .complex .f32 0 0, .complex .f32 0 0, .float .f32 lv, .slice none 0 0, .int .i64 (0), .int .i64 (0), .slice none 0 0, .slice none 0 0, .int .i64 (0), .int .i64 (0)]) ∧ Chg (fun _ => False) w w') := by
  go_enter Try.func28, Try.ntmps28
  go_wp2
  exact bodyPost_ret (v := .agg #[.int .i64 (3), .complex .f32 0 0, .complex .f32 0 0, .float .f32 lv, .slice none 0 0, .int .i64 (0), .int .i64 (0), .slice none 0 0, .slice none 0 0, .int .i64 (0), .int .i64 (0)]) (by simp [results, Try.results28, go_sem]) rfl ⟨rfl, (Chg.refl _ w).alloc _⟩

set_option maxHeartbeats 2000000 in
theorem walkFnExactNewSum (w : World) : Calls Try.prog 7 #[] w (LawPost w) := by
  go_enter Try.func7, Try.ntmps7
  go_wp2_with fail
  refine (specNewSum_calls _).mono ?_
  rintro e w1 ⟨rfl, g1⟩
  go_wp2_with fail
  refine (NewSum_calls _).mono ?_
  rintro e w2 ⟨rfl, g2⟩
  have A1 := hid (g2.heap (heap_new w1 _) id)
  have s2 : w1.heap.size < w2.heap.size := by have := g2.size; simp at this; omega
  have c1 := cells_at A1.out
  go_wp2_with fail
  refine (eqModule_nil _ 5 0 0 0 0 0 0 0 0 0).mono ?_
  rintro e w3 ⟨rfl, g3⟩
  have B3 := hid (g3.heap (heap_new w2 _) id)
  have b3 := cells_at B3.out
  have s3 : w2.heap.size < w3.heap.size := by have := g3.size; simp at this; omega
  clear c1
  go_wp2_with fail
  refine (markModule_nil _ 5 0 0 0 0 1 0 0 0 0 0).mono ?_
  rintro e w4 ⟨rfl, g4⟩
  have B4 := hid (g4.heap B3.out id)
  have b4 := cells_at B4.out
  clear b3
  go_wp2_with fail
  refine (heldModule_nil _ 5 0 0 0 0 1 0 0 0 0 0 (by omega)).mono ?_
  rintro e w5 ⟨rfl, g5⟩
  have B5 := hid (g5.heap B4.out id)
  clear b4
  go_wp2_with fail
  refine (NewSum_calls _).mono ?_
  rintro e w6 ⟨rfl, g6⟩
  have s4 := g4.size
  have s5 := g5.size
  have s6 := g6.size
  have G26 : Chg (fun _ => False) w2 w6 := ((((Chg.refl (fun _ => False) w2).alloc _).trans g3 fun _ _ h => h).trans g4 fun _ _ h => h).trans (g5.trans g6 fun _ _ h => h) fun _ _ h => h
  have A6 := hid (G26.heap A1.out id)
  have a6 := cells_at A6.out
  have q1 : w1.heap.size < w6.heap.size := by omega
  go_wp2_with fail
  refine (eqModule_nil _ 5 0 0 0 0 0 0 0 0 0).mono ?_
  rintro e w7 ⟨rfl, g7⟩
  have G67 := (((g6.trans ((Chg.refl (fun _ => False) w6).alloc _) fun _ _ h => h).trans g7 fun _ _ h => h))
  have B7 := hid (G67.heap B5.out id)
  have b7 := cells_at B7.out
  clear a6
  go_wp2_with fail
  refine (heldModule_nil _ 5 0 0 0 0 1 0 0 0 0 0 (by omega)).mono ?_
  rintro e w8 ⟨rfl, g8⟩
  go_wp2_with fail
  go_ret
  refine ⟨rfl, ?_⟩
  exact (((g1.alloc _).trans g2 fun _ _ h => h).trans (G26.alloc _) fun _ _ h => h).trans (g7.trans g8 fun _ _ h => h) fun _ _ h => h

set_option maxHeartbeats 2000000 in
theorem walkFnExactNewMeter (w : World) : Calls Try.prog 6 #[] w (LawPost w) := by
  go_enter Try.func6, Try.ntmps6
  go_wp2_with fail
  refine (specNewMeter_calls _).mono ?_
  rintro e w1 ⟨rfl, g1⟩
  go_wp2_with fail
  refine (NewMeter_calls _).mono ?_
  rintro e w2 ⟨rfl, g2⟩
  have A1 := hid (g2.heap (heap_new w1 _) id)
  have s2 : w1.heap.size < w2.heap.size := by have := g2.size; simp at this; omega
  have c1 := cells_at A1.out
  go_wp2_with fail
  refine (eqModule_nil _ 7 0 0 0 0 0 0 0 0 0).mono ?_
  rintro e w3 ⟨rfl, g3⟩
  have B3 := hid (g3.heap (heap_new w2 _) id)
  have b3 := cells_at B3.out
  have s3 : w2.heap.size < w3.heap.size := by have := g3.size; simp at this; omega
  clear c1
  go_wp2_with fail
  refine (markModule_nil _ 7 0 0 0 0 1 0 0 0 0 0).mono ?_
  rintro e w4 ⟨rfl, g4⟩
  have B4 := hid (g4.heap B3.out id)
  have b4 := cells_at B4.out
  clear b3
  go_wp2_with fail
  refine (heldModule_nil _ 7 0 0 0 0 1 0 0 0 0 0 (by omega)).mono ?_
  rintro e w5 ⟨rfl, g5⟩
  have B5 := hid (g5.heap B4.out id)
  clear b4
  go_wp2_with fail
  refine (NewMeter_calls _).mono ?_
  rintro e w6 ⟨rfl, g6⟩
  have s4 := g4.size
  have s5 := g5.size
  have s6 := g6.size
  have G26 : Chg (fun _ => False) w2 w6 := ((((Chg.refl (fun _ => False) w2).alloc _).trans g3 fun _ _ h => h).trans g4 fun _ _ h => h).trans (g5.trans g6 fun _ _ h => h) fun _ _ h => h
  have A6 := hid (G26.heap A1.out id)
  have a6 := cells_at A6.out
  have q1 : w1.heap.size < w6.heap.size := by omega
  go_wp2_with fail
  refine (eqModule_nil _ 7 0 0 0 0 0 0 0 0 0).mono ?_
  rintro e w7 ⟨rfl, g7⟩
  have G67 := (((g6.trans ((Chg.refl (fun _ => False) w6).alloc _) fun _ _ h => h).trans g7 fun _ _ h => h))
  have B7 := hid (G67.heap B5.out id)
  have b7 := cells_at B7.out
  clear a6
  go_wp2_with fail
  refine (heldModule_nil _ 7 0 0 0 0 1 0 0 0 0 0 (by omega)).mono ?_
  rintro e w8 ⟨rfl, g8⟩
  go_wp2_with fail
  go_ret
  refine ⟨rfl, ?_⟩
  exact (((g1.alloc _).trans g2 fun _ _ h => h).trans (G26.alloc _) fun _ _ h => h).trans (g7.trans g8 fun _ _ h => h) fun _ _ h => h

set_option maxHeartbeats 2000000 in
theorem walkFnExactNewGain (w : World) (lv : Nat) (_h : lv < 4294967296) : Calls Try.prog 5 #[.float .f32 lv] w (LawPost w) := by
  go_enter Try.func5, Try.ntmps5
  go_wp2_with fail
  refine (specNewGain_calls _ lv).mono ?_
  rintro e w1 ⟨rfl, g1⟩
  go_wp2_with fail
  refine (NewGain_calls _ lv).mono ?_
  rintro e w2 ⟨rfl, g2⟩
  have A1 := hid (g2.heap (heap_new w1 _) id)
  have s2 : w1.heap.size < w2.heap.size := by have := g2.size; simp at this; omega
  have c1 := cells_at A1.out
  go_wp2_with fail
  refine (eqModule_nil _ 3 0 0 0 0 0 0 0 0 lv).mono ?_
  rintro e w3 ⟨rfl, g3⟩
  have B3 := hid (g3.heap (heap_new w2 _) id)
  have b3 := cells_at B3.out
  have s3 : w2.heap.size < w3.heap.size := by have := g3.size; simp at this; omega
  clear c1
  go_wp2_with fail
  refine (markModule_nil _ 3 0 0 0 0 1 0 0 0 0 lv).mono ?_
  rintro e w4 ⟨rfl, g4⟩
  have B4 := hid (g4.heap B3.out id)
  have b4 := cells_at B4.out
  clear b3
  go_wp2_with fail
  refine (heldModule_nil _ 3 0 0 0 0 1 0 0 0 0 lv (by omega)).mono ?_
  rintro e w5 ⟨rfl, g5⟩
  have B5 := hid (g5.heap B4.out id)
  clear b4
  go_wp2_with fail
  refine (NewGain_calls _ lv).mono ?_
  rintro e w6 ⟨rfl, g6⟩
  have s4 := g4.size
  have s5 := g5.size
  have s6 := g6.size
  have G26 : Chg (fun _ => False) w2 w6 := ((((Chg.refl (fun _ => False) w2).alloc _).trans g3 fun _ _ h => h).trans g4 fun _ _ h => h).trans (g5.trans g6 fun _ _ h => h) fun _ _ h => h
  have A6 := hid (G26.heap A1.out id)
  have a6 := cells_at A6.out
  have q1 : w1.heap.size < w6.heap.size := by omega
  go_wp2_with fail
  refine (eqModule_nil _ 3 0 0 0 0 0 0 0 0 lv).mono ?_
  rintro e w7 ⟨rfl, g7⟩
  have G67 := (((g6.trans ((Chg.refl (fun _ => False) w6).alloc _) fun _ _ h => h).trans g7 fun _ _ h => h))
  have B7 := hid (G67.heap B5.out id)
  have b7 := cells_at B7.out
  clear a6
  go_wp2_with fail
  refine (heldModule_nil _ 3 0 0 0 0 1 0 0 0 0 lv (by omega)).mono ?_
  rintro e w8 ⟨rfl, g8⟩
  go_wp2_with fail
  go_ret
  refine ⟨rfl, ?_⟩
  exact (((g1.alloc _).trans g2 fun _ _ h => h).trans (G26.alloc _) fun _ _ h => h).trans (g7.trans g8 fun _ _ h => h) fun _ _ h => h

end Go.Proofs.Ytopkehknaclhlaa
