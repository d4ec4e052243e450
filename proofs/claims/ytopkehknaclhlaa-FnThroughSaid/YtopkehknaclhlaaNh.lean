/- The law on NewHold, walked: for every n the program's hold is the reference's. No condition. -/
import Derived.Test.YtopkehknaclhlaaCk
namespace Go.Proofs.Ytopkehknaclhlaa
open Go Go.RowKit

/-- A new hold comes back, and true. -/
def RHold (w : World) (n : Int) (e : Ending) (w' : World) : Prop := e = .returned (.tuple #[.agg #[.int .i64 (8), .complex .f32 0 0, .complex .f32 0 0, .float .f32 0, .slice none 0 0, .int .i64 (0), .int .i64 (0), .slice none 0 0, .slice none 0 0, .int .i64 (n), .int .i64 (0)], .bool true]) ∧ Chg (fun _ => False) w w'

set_option maxHeartbeats 1000000 in
theorem NewHold_yes (w : World) (n : Int) (h1 : 1 ≤ n) (h2 : n ≤ 100) : Calls Try.prog 37 #[.int .i64 n] w (RHold w n) := by
  go_enter Try.func37, Try.ntmps37
  go_wp2_with fail
  refine (checked_yes _ 8 0 0 0 0 0 _ 0 0 _ _ n 0 [] [] [] (by decide) (by decide) (by decide) (OwnC.nil _ _) (OwnC.nil _ _) (OwnI.nil _ _) (fun w' _ => IsModule_hold w' 0 0 n 0 h1 h2 (by omega) (by omega))).mono ?_
  rintro e w1 ⟨b1, d1, b2, d2, b3, d3, rfl, o1, o2, o3, m1, m2, m3, g1⟩
  obtain ⟨rfl, rfl⟩ := m1 rfl
  obtain ⟨rfl, rfl⟩ := m2 rfl
  obtain ⟨rfl, rfl⟩ := m3 rfl
  clear o1 o2 o3 m1 m2 m3
  have F1 := hid (g1.heap (heap_new w _) id)
  have k1 := cells_at F1.out
  have f1 := frees_at F1.out
  have z1 := g1.size
  go_wp2_with fail
  refine bodyPost_ret (results_row_tmp (by rfl) _ _ _ w.heap.size _ (.bool true) rfl (load_mod (heap_row11 F1.out _ _ _ _ _ _ _ _ _ _ _) rfl) rfl) rfl ⟨rfl, ?_⟩
  refine (((Chg.refl (fun _ => False) w).alloc _).trans g1 fun _ _ h => h).trans (T := fun k => k = w.heap.size) ?_ fun k hk e => by omega
  repeat (first | (with_reducible exact Chg.refl _ _) | (with_reducible refine Chg.setCell ?_ ?_ _; rotate_left; exact .inl rfl))

set_option maxHeartbeats 1000000 in
theorem NewHold_no (w : World) (n : Int) (h : ¬ (1 ≤ n ∧ n ≤ 100)) : Calls Try.prog 37 #[.int .i64 n] w (RChk0 w) := by
  have H := hid h
  clear h
  go_enter Try.func37, Try.ntmps37
  go_wp2_with fail
  refine (checked_no _ 8 0 0 0 0 0 none 0 0 0 0 none 0 0 none 0 0 n 0 (fun w' _ => IsModule_hold_no w' n H.out)).mono ?_
  rintro e w1 ⟨rfl, g1⟩
  have F1 := hid (g1.heap (heap_new w _) id)
  have k1 := cells_at F1.out
  have f1 := frees_at F1.out
  have z1 := g1.size
  go_wp2_with fail
  refine bodyPost_ret (results_row_tmp (by rfl) _ _ _ w.heap.size _ (.bool false) rfl (load_mod (heap_row11 F1.out _ _ _ _ _ _ _ _ _ _ _) rfl) rfl) rfl ⟨rfl, ?_⟩
  refine (((Chg.refl (fun _ => False) w).alloc _).trans g1 fun _ _ h => h).trans (T := fun k => k = w.heap.size) ?_ fun k hk e => by omega
  repeat (first | (with_reducible exact Chg.refl _ _) | (with_reducible refine Chg.setCell ?_ ?_ _; rotate_left; exact .inl rfl))

set_option maxHeartbeats 1000000 in
theorem specNewHold_yes (w : World) (n : Int) (h1 : 1 ≤ n) (h2 : n ≤ 100) : Calls Try.prog 36 #[.int .i64 n] w (RHold w n) := by
  go_enter Try.func36, Try.ntmps36
  go_wp2_with (go_at_call 85; refine (l1In_yes _ _ _ _ (by omega) (by omega)).mono ?_; rintro e w' ⟨rfl, rfl⟩)
  exact bodyPost_ret (v := .tuple #[.agg #[.int .i64 (8), .complex .f32 0 0, .complex .f32 0 0, .float .f32 0, .slice none 0 0, .int .i64 (0), .int .i64 (0), .slice none 0 0, .slice none 0 0, .int .i64 (n), .int .i64 (0)], .bool true]) (by simp [results, Try.results36, go_sem]) rfl ⟨rfl, (Chg.refl _ w).alloc _⟩

set_option maxHeartbeats 1000000 in
theorem specNewHold_no (w : World) (n : Int) (h : ¬ (1 ≤ n ∧ n ≤ 100)) : Calls Try.prog 36 #[.int .i64 n] w (RChk0 w) := by
  have H := hid h
  clear h
  go_enter Try.func36, Try.ntmps36
  go_wp2_with (go_at_call 85; refine (l1In_no _ _ _ _ H.out).mono ?_; rintro e w' ⟨rfl, rfl⟩)
  exact bodyPost_ret (v := .tuple #[.agg #[.int .i64 (0), .complex .f32 0 0, .complex .f32 0 0, .float .f32 0, .slice none 0 0, .int .i64 (0), .int .i64 (0), .slice none 0 0, .slice none 0 0, .int .i64 (0), .int .i64 (0)], .bool false]) (by simp [results, Try.results36, go_sem]) rfl ⟨rfl, (Chg.refl _ w).alloc _⟩

set_option maxHeartbeats 4000000 in
theorem walkFnExactNewHold (w : World) (n : Int) (_h1 : -9223372036854775808 ≤ n) (_h2 : n ≤ 9223372036854775807) : Calls Try.prog 8 #[.int .i64 n] w (LawPost w) := by
  by_cases h : 1 ≤ n ∧ n ≤ 100
  · obtain ⟨h1, h2⟩ := h
    go_enter Try.func8, Try.ntmps8
    go_wp2_with fail
    refine (specNewHold_yes _ n h1 h2).mono ?_
    rintro e w1 ⟨rfl, g1⟩
    go_wp2_with fail
    refine (NewHold_yes _ n h1 h2).mono ?_
    rintro e w2 ⟨rfl, g2⟩
    have A1 := hid (g2.heap (heap_new w1 _) id)
    have s2 : w1.heap.size < w2.heap.size := by have := g2.size; simp at this; omega
    have c1 := cells_at A1.out
    go_wp2_with fail
    refine (eqModule_nil _ 8 0 0 n 0 0 0 0 0 0).mono ?_
    rintro e w3 ⟨rfl, g3⟩
    have B3 := hid (g3.heap (heap_new w2 _) id)
    have b3 := cells_at B3.out
    have s3 : w2.heap.size < w3.heap.size := by have := g3.size; simp at this; omega
    clear c1
    go_wp2_with fail
    refine (markModule_nil _ 8 0 0 n 0 1 0 0 0 0 0).mono ?_
    rintro e w4 ⟨rfl, g4⟩
    have B4 := hid (g4.heap B3.out id)
    have b4 := cells_at B4.out
    clear b3
    go_wp2_with fail
    refine (heldModule_nil _ 8 0 0 n 0 1 0 0 0 0 0 (by omega)).mono ?_
    rintro e w5 ⟨rfl, g5⟩
    have B5 := hid (g5.heap B4.out id)
    clear b4
    go_wp2_with fail
    refine (NewHold_yes _ n h1 h2).mono ?_
    rintro e w6 ⟨rfl, g6⟩
    have s4 := g4.size
    have s5 := g5.size
    have s6 := g6.size
    have G26 : Chg (fun _ => False) w2 w6 := ((((Chg.refl (fun _ => False) w2).alloc _).trans g3 fun _ _ h => h).trans g4 fun _ _ h => h).trans (g5.trans g6 fun _ _ h => h) fun _ _ h => h
    have A6 := hid (G26.heap A1.out id)
    have a6 := cells_at A6.out
    have q1 : w1.heap.size < w6.heap.size := by omega
    go_wp2_with fail
    refine (eqModule_nil _ 8 0 0 n 0 0 0 0 0 0).mono ?_
    rintro e w7 ⟨rfl, g7⟩
    have G67 := (((g6.trans ((Chg.refl (fun _ => False) w6).alloc _) fun _ _ h => h).trans g7 fun _ _ h => h))
    have B7 := hid (G67.heap B5.out id)
    have b7 := cells_at B7.out
    clear a6
    go_wp2_with fail
    refine (heldModule_nil _ 8 0 0 n 0 1 0 0 0 0 0 (by omega)).mono ?_
    rintro e w8 ⟨rfl, g8⟩
    go_wp2_with fail
    go_ret
    refine ⟨rfl, ?_⟩
    exact (((g1.alloc _).trans g2 fun _ _ h => h).trans (G26.alloc _) fun _ _ h => h).trans (g7.trans g8 fun _ _ h => h) fun _ _ h => h
  · have H := hid h
    clear h
    go_enter Try.func8, Try.ntmps8
    go_wp2_with fail
    refine (specNewHold_no _ n H.out).mono ?_
    rintro e w1 ⟨rfl, g1⟩
    go_wp2_with fail
    refine (NewHold_no _ n H.out).mono ?_
    rintro e w2 ⟨rfl, g2⟩
    have A1 := hid (g2.heap (heap_new w1 _) id)
    have s2 : w1.heap.size < w2.heap.size := by have := g2.size; simp at this; omega
    have c1 := cells_at A1.out
    go_wp2_with fail
    refine (eqModule_nil _ 0 0 0 0 0 0 0 0 0 0).mono ?_
    rintro e w3 ⟨rfl, g3⟩
    have B3 := hid (g3.heap (heap_new w2 _) id)
    have b3 := cells_at B3.out
    have s3 : w2.heap.size < w3.heap.size := by have := g3.size; simp at this; omega
    clear c1
    go_wp2_with fail
    refine (markModule_nil _ 0 0 0 0 0 1 0 0 0 0 0).mono ?_
    rintro e w4 ⟨rfl, g4⟩
    have B4 := hid (g4.heap B3.out id)
    have b4 := cells_at B4.out
    clear b3
    go_wp2_with fail
    refine (heldModule_nil _ 0 0 0 0 0 1 0 0 0 0 0 (by omega)).mono ?_
    rintro e w5 ⟨rfl, g5⟩
    have B5 := hid (g5.heap B4.out id)
    clear b4
    go_wp2_with fail
    refine (NewHold_no _ n H.out).mono ?_
    rintro e w6 ⟨rfl, g6⟩
    have s4 := g4.size
    have s5 := g5.size
    have s6 := g6.size
    have G26 : Chg (fun _ => False) w2 w6 := ((((Chg.refl (fun _ => False) w2).alloc _).trans g3 fun _ _ h => h).trans g4 fun _ _ h => h).trans (g5.trans g6 fun _ _ h => h) fun _ _ h => h
    have A6 := hid (G26.heap A1.out id)
    have a6 := cells_at A6.out
    have q1 : w1.heap.size < w6.heap.size := by omega
    go_wp2_with fail
    refine (eqModule_nil _ 0 0 0 0 0 0 0 0 0 0).mono ?_
    rintro e w7 ⟨rfl, g7⟩
    have G67 := (((g6.trans ((Chg.refl (fun _ => False) w6).alloc _) fun _ _ h => h).trans g7 fun _ _ h => h))
    have B7 := hid (G67.heap B5.out id)
    have b7 := cells_at B7.out
    clear a6
    go_wp2_with fail
    refine (heldModule_nil _ 0 0 0 0 0 1 0 0 0 0 0 (by omega)).mono ?_
    rintro e w8 ⟨rfl, g8⟩
    go_wp2_with fail
    go_ret
    refine ⟨rfl, ?_⟩
    exact (((g1.alloc _).trans g2 fun _ _ h => h).trans (G26.alloc _) fun _ _ h => h).trans (g7.trans g8 fun _ _ h => h) fun _ _ h => h

end Go.Proofs.Ytopkehknaclhlaa
