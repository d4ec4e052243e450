/- The law on NewRing, walked: for every n the program's ring is the reference's, bears marks of its own, and is new each time. No condition. -/
import Derived.Test.YtopkehknaclhlaaEx
namespace Go.Proofs.Ytopkehknaclhlaa
open Go Go.RowKit

set_option maxHeartbeats 400000 in
theorem markC_nil (w : World) (k : Int) : Calls Try.prog 87 #[.slice none 0 0, .int .i64 k] w (fun e w' => e = .returned (.int .i64 k) ∧ w = w') := by
  go_enter Try.func87, Try.ntmps87
  go_wp2
  go_loop [1, 5] (fun q i => i = .int .i64 0 ∧ q = .int .i64 k) (fun _ i => 0)
  case atStart => exact ⟨rfl, rfl⟩
  case round =>
    obtain ⟨rfl, rfl⟩ := hrel
    go_wp2
    go_ret
    exact ⟨rfl, rfl⟩

set_option maxHeartbeats 400000 in
theorem heldC_nil (w : World) (k : Int) : Calls Try.prog 88 #[.slice none 0 0, .int .i64 k] w (fun e w' => e = .returned (.int .i64 k) ∧ w = w') := by
  go_enter Try.func88, Try.ntmps88
  go_wp2
  go_loop [1, 5] (fun q i => i = .int .i64 0 ∧ q = .int .i64 k) (fun _ i => 0)
  case atStart => exact ⟨rfl, rfl⟩
  case round =>
    obtain ⟨rfl, rfl⟩ := hrel
    go_wp2
    go_ret
    exact ⟨rfl, rfl⟩

/-- A ring as it is handed: its store, At and Count. -/
def ring (s : Value) (x y : Int) : Value := .agg #[s, .int .i64 x, .int .i64 y]

/-- True; new blocks alone. -/
def RT (w : World) (e : Ending) (w' : World) : Prop := e = .returned (.bool true) ∧ Chg (fun _ => False) w w'

set_option maxHeartbeats 400000 in
theorem eqRing_zero (w : World) (b1 b2 n : Nat) (x y : Int) (hn : n ≤ 16) (h1 : w.heap[b1]? = some (.cells (Array.replicate n (.complex .f32 0 0)) 33 (0, 0))) (h2 : w.heap[b2]? = some (.cells (Array.replicate n (.complex .f32 0 0)) 33 (0, 0))) :
    Calls Try.prog 24 #[.agg #[.slice (some ⟨b1, 0, none⟩) n n, .int .i64 x, .int .i64 y], .agg #[.slice (some ⟨b2, 0, none⟩) n n, .int .i64 x, .int .i64 y]] w (RT w) := by
  have l1 := heap_lt h1
  have l2 := heap_lt h2
  have H1 := hid h1
  have H2 := hid h2
  clear h1 h2
  go_enter Try.func24, Try.ntmps24
  go_wp2_with fail
  refine (eqC_zero _ b1 b2 n hn (((Chg.refl (fun _ => False) w).alloc _).alloc _ |>.heap H1.out id) (((Chg.refl (fun _ => False) w).alloc _).alloc _ |>.heap H2.out id)).mono ?_
  rintro e w1 ⟨rfl, m, rfl⟩
  go_wp2_with fail
  go_ret
  exact ⟨rfl, (((Chg.refl _ w).alloc _).alloc _).drewN _⟩

set_option maxHeartbeats 400000 in
theorem eqRing_nil (w : World) (x y : Int) :
    Calls Try.prog 24 #[.agg #[.slice none 0 0, .int .i64 x, .int .i64 y], .agg #[.slice none 0 0, .int .i64 x, .int .i64 y]] w (RT w) := by
  go_enter Try.func24, Try.ntmps24
  go_wp2_with fail
  refine (eqC_nil _).mono ?_
  rintro e w1 ⟨rfl, m, rfl⟩
  go_wp2_with fail
  go_ret
  exact ⟨rfl, (((Chg.refl _ w).alloc _).alloc _).drewN _⟩

set_option maxHeartbeats 400000 in
theorem markRing_calls (w : World) (b n : Nat) (x y : Int) (hn : n ≤ 16) (arr : Array Value) (ha : n ≤ arr.size) (k : Int) (k0 : 0 ≤ k) (k1 : k ≤ 20) (hb : w.heap[b]? = some (.cells arr 33 (0, 0))) :
    Calls Try.prog 25 #[.agg #[.slice (some ⟨b, 0, none⟩) n n, .int .i64 x, .int .i64 y], .int .i64 k] w (RMark w b n arr k) := by
  have HB := hid hb
  clear hb
  go_enter Try.func25, Try.ntmps25
  go_wp2_with fail
  refine (markC_calls _ b n hn arr ha k k0 k1 ((Chg.refl (fun _ => False) w).alloc _ |>.heap HB.out id)).mono ?_
  rintro e w1 ⟨rfl, hb1, g1⟩
  go_wp2_with fail
  go_ret
  exact ⟨rfl, hb1, ((Chg.refl _ w).alloc _).trans g1 fun _ _ h => h⟩

set_option maxHeartbeats 400000 in
theorem markRing_nil (w : World) (x y k : Int) :
    Calls Try.prog 25 #[.agg #[.slice none 0 0, .int .i64 x, .int .i64 y], .int .i64 k] w (fun e w' => e = .returned (.int .i64 k) ∧ Chg (fun _ => False) w w') := by
  go_enter Try.func25, Try.ntmps25
  go_wp2_with fail
  refine (markC_nil _ k).mono ?_
  rintro e w1 ⟨rfl, rfl⟩
  go_wp2_with fail
  go_ret
  exact ⟨rfl, (Chg.refl _ w).alloc _⟩

set_option maxHeartbeats 400000 in
theorem heldRing_calls (w : World) (b n : Nat) (x y : Int) (hn : n ≤ 16) (arr : Array Value) (ha : n ≤ arr.size) (k : Int) (k0 : 0 ≤ k) (k1 : k ≤ 20) (hb : w.heap[b]? = some (.cells (markTo arr k n) 33 (0, 0))) :
    Calls Try.prog 26 #[.agg #[.slice (some ⟨b, 0, none⟩) n n, .int .i64 x, .int .i64 y], .int .i64 k] w (fun e w' => e = .returned (.int .i64 (k + n)) ∧ Chg (fun _ => False) w w') := by
  have HB := hid hb
  clear hb
  go_enter Try.func26, Try.ntmps26
  go_wp2_with fail
  refine (heldC_calls _ b n hn arr ha k k0 k1 ((Chg.refl (fun _ => False) w).alloc _ |>.heap HB.out id)).mono ?_
  rintro e w1 ⟨rfl, rfl⟩
  go_wp2_with fail
  go_ret
  exact ⟨rfl, (Chg.refl _ w).alloc _⟩

set_option maxHeartbeats 400000 in
theorem heldRing_nil (w : World) (x y k : Int) (k0 : 0 ≤ k) :
    Calls Try.prog 26 #[.agg #[.slice none 0 0, .int .i64 x, .int .i64 y], .int .i64 k] w (fun e w' => e = .returned (.int .i64 k) ∧ Chg (fun _ => False) w w') := by
  go_enter Try.func26, Try.ntmps26
  go_wp2_with fail
  refine (heldC_nil _ k).mono ?_
  rintro e w1 ⟨rfl, rfl⟩
  go_wp2_with fail
  go_ret
  exact ⟨rfl, (Chg.refl _ w).alloc _⟩

set_option maxHeartbeats 2000000 in
theorem walkFnExactNewRing (w : World) (n : Int) (_h1 : -9223372036854775808 ≤ n) (_h2 : n ≤ 9223372036854775807) : Calls Try.prog 4 #[.int .i64 n] w (LawPost w) := by
  by_cases h : 1 ≤ n ∧ n ≤ 16
  · obtain ⟨n1, n2⟩ := h
    obtain ⟨n, rfl⟩ := Int.eq_ofNat_of_zero_le (show 0 ≤ n by omega)
    have n1' : 1 ≤ n := by omega
    have n2' : n ≤ 16 := by omega
    go_enter Try.func4, Try.ntmps4
    go_wp2_with fail
    refine (specNewRing_yes _ n n1' n2').mono ?_
    rintro e w1 ⟨b1, l1, rfl, hb1, g1⟩
    have HB1 := hid hb1
    have L1 := heap_lt hb1
    clear hb1
    go_wp2_with fail
    refine (NewRing_yes _ n n1' n2').mono ?_
    rintro e w2 ⟨b2, l2, rfl, hb2, g2⟩
    have HB2 := hid hb2
    have L2 := heap_lt hb2
    clear hb2
    have A1 := hid (g2.heap (heap_new w1 _) id)
    have s2 : w1.heap.size < w2.heap.size := by have := g2.size; simp at this; omega
    have c1 := cells_at A1.out
    go_wp2_with fail
    refine (eqRing_zero _ b2 b1 n 0 0 n2' ((Chg.refl (fun _ => False) w2).alloc _ |>.heap HB2.out id) ((((Chg.refl (fun _ => False) w1).alloc _).trans g2 fun _ _ h => h).alloc _ |>.heap HB1.out id)).mono ?_
    rintro e w3 ⟨rfl, g3⟩
    have B3 := hid (g3.heap (heap_new w2 _) id)
    have b3 := cells_at B3.out
    have s3 : w2.heap.size < w3.heap.size := by have := g3.size; simp at this; omega
    have HB23 := hid (((Chg.refl (fun _ => False) w2).alloc _ |>.trans g3 fun _ _ h => h).heap HB2.out id)
    clear c1
    go_wp2_with fail
    refine (markRing_calls _ b2 n 0 0 n2' _ (by simp) 1 (by omega) (by omega) HB23.out).mono ?_
    rintro e w4 ⟨rfl, hb4, g4⟩
    have HB4 := hid hb4
    clear hb4 b3
    have ne2 : w2.heap.size ≠ b2 := by omega
    have B4 := hid (g4.heap B3.out ne2)
    have b4 := cells_at B4.out
    go_wp2_with fail
    refine (heldRing_calls _ b2 n 0 0 n2' _ (by simp) 1 (by omega) (by omega) HB4.out).mono ?_
    rintro e w5 ⟨rfl, g5⟩
    have HB5 := hid (g5.heap HB4.out id)
    have B5 := hid (g5.heap B4.out id)
    clear b4
    go_wp2_with fail
    refine (NewRing_yes _ n n1' n2').mono ?_
    rintro e w6 ⟨b3, l3, rfl, hb6, g6⟩
    have HB6 := hid hb6
    clear hb6
    have l2' : w1.heap.size < b2 := by simp at l2; omega
    have s4 := g4.size
    have s5 := g5.size
    have s6 := g6.size
    have G26 : Chg (fun j => j = b2) w2 w6 := ((((Chg.refl (fun j => j = b2) w2).alloc _).trans g3 fun _ _ h => h.elim).trans g4 fun _ _ h => h).trans (g5.trans g6 fun _ _ h => h) fun _ _ h => h.elim
    have A6 := hid (G26.heap A1.out (by omega))
    have a6 := cells_at A6.out
    have q1 : w1.heap.size < w6.heap.size := by omega
    go_wp2_with fail
    refine (eqRing_zero _ b3 b1 n 0 0 n2' ((Chg.refl (fun _ => False) w6).alloc _ |>.heap HB6.out id) ((((Chg.refl (fun j => j = b2) w1).alloc _).trans g2 fun _ _ h => h.elim).trans (G26.alloc _) (fun _ _ h => h) |>.heap HB1.out (by omega))).mono ?_
    rintro e w7 ⟨rfl, g7⟩
    have G67 := (((g6.trans ((Chg.refl (fun _ => False) w6).alloc _) fun _ _ h => h).trans g7 fun _ _ h => h))
    have B7 := hid (G67.heap B5.out id)
    have HB7 := hid (G67.heap HB5.out id)
    have b7 := cells_at B7.out
    clear a6
    go_wp2_with fail
    refine (heldRing_calls _ b2 n 0 0 n2' _ (by simp) 1 (by omega) (by omega) HB7.out).mono ?_
    rintro e w8 ⟨rfl, g8⟩
    go_wp2_with fail
    go_ret
    refine ⟨rfl, ?_⟩
    have G18 : Chg (fun j => j = b2) w1 w8 := ((((Chg.refl (fun j => j = b2) w1).alloc _).trans g2 fun _ _ h => h.elim).trans (G26.alloc _) (fun _ _ h => h)).trans (g7.trans g8 fun _ _ h => h) fun _ _ h => h.elim
    have s0 := g1.size
    exact g1.trans G18 fun k hk e => by omega
  · have H := hid h
    clear h
    go_enter Try.func4, Try.ntmps4
    go_wp2_with fail
    refine (specNewRing_no _ n H.out).mono ?_
    rintro e w1 ⟨rfl, g1⟩
    go_wp2_with fail
    refine (NewRing_no _ n H.out).mono ?_
    rintro e w2 ⟨rfl, g2⟩
    have A1 := hid (g2.heap (heap_new w1 _) id)
    have s2 : w1.heap.size < w2.heap.size := by have := g2.size; simp at this; omega
    have c1 := cells_at A1.out
    go_wp2_with fail
    refine (eqRing_nil _ 0 0).mono ?_
    rintro e w3 ⟨rfl, g3⟩
    have B3 := hid (g3.heap (heap_new w2 _) id)
    have b3 := cells_at B3.out
    have s3 : w2.heap.size < w3.heap.size := by have := g3.size; simp at this; omega
    clear c1
    go_wp2_with fail
    refine (markRing_nil _ 0 0 1).mono ?_
    rintro e w4 ⟨rfl, g4⟩
    have B4 := hid (g4.heap B3.out id)
    have b4 := cells_at B4.out
    clear b3
    go_wp2_with fail
    refine (heldRing_nil _ 0 0 1 (by omega)).mono ?_
    rintro e w5 ⟨rfl, g5⟩
    have B5 := hid (g5.heap B4.out id)
    clear b4
    go_wp2_with fail
    refine (NewRing_no _ n H.out).mono ?_
    rintro e w6 ⟨rfl, g6⟩
    have s4 := g4.size
    have s5 := g5.size
    have s6 := g6.size
    have G26 : Chg (fun _ => False) w2 w6 := ((((Chg.refl (fun _ => False) w2).alloc _).trans g3 fun _ _ h => h).trans g4 fun _ _ h => h).trans (g5.trans g6 fun _ _ h => h) fun _ _ h => h
    have A6 := hid (G26.heap A1.out id)
    have a6 := cells_at A6.out
    have q1 : w1.heap.size < w6.heap.size := by omega
    go_wp2_with fail
    refine (eqRing_nil _ 0 0).mono ?_
    rintro e w7 ⟨rfl, g7⟩
    have G67 := (((g6.trans ((Chg.refl (fun _ => False) w6).alloc _) fun _ _ h => h).trans g7 fun _ _ h => h))
    have B7 := hid (G67.heap B5.out id)
    have b7 := cells_at B7.out
    clear a6
    go_wp2_with fail
    refine (heldRing_nil _ 0 0 1 (by omega)).mono ?_
    rintro e w8 ⟨rfl, g8⟩
    go_wp2_with fail
    go_ret
    refine ⟨rfl, ?_⟩
    exact (((g1.alloc _).trans g2 fun _ _ h => h).trans (G26.alloc _) fun _ _ h => h).trans (g7.trans g8 fun _ _ h => h) fun _ _ h => h

end Go.Proofs.Ytopkehknaclhlaa
