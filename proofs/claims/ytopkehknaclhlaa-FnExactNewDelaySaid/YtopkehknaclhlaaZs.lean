/- The exact laws' helpers over rings of zeros of whatever capacity. Conditions: up to 16 samples. -/
import Derived.Test.YtopkehknaclhlaaDl
namespace Go.Proofs.Ytopkehknaclhlaa
open Go Go.RowKit

/-- Block b begins with n zeros. -/
def Zs (w : World) (b n : Nat) : Prop := ∃ arr, w.heap[b]? = some (.cells arr 33 (0, 0)) ∧ n ≤ arr.size ∧ ∀ k, k < n → arr[k]? = some (.complex .f32 0 0)

theorem Zs.chg {S : Nat → Prop} {w w' : World} {b n : Nat} (h : Zs w b n) (g : Chg S w w') (hS : ¬ S b) : Zs w' b n := by
  obtain ⟨arr, h1, h2⟩ := h
  exact ⟨arr, g.heap h1 hS, h2⟩
theorem Zs.lt {w : World} {b n : Nat} (h : Zs w b n) : b < w.heap.size := by
  obtain ⟨arr, h1, h2⟩ := h
  exact heap_lt h1

set_option maxHeartbeats 400000 in
theorem eqC_zs (w : World) (b1 b2 n p1 p2 : Nat) (hn : n ≤ 16) (h1 : Zs w b1 n) (h2 : Zs w b2 n) :
    Calls Try.prog 86 #[.slice (some ⟨b1, 0, none⟩) n p1, .slice (some ⟨b2, 0, none⟩) n p2] w (RTrue w) := by
  obtain ⟨arr1, h1, _, hz1⟩ := h1
  obtain ⟨arr2, h2, _, hz2⟩ := h2
  have H1 := hid h1
  have H2 := hid h2
  have Z1 := hid hz1
  have Z2 := hid hz2
  clear h1 h2 hz1 hz2
  go_enter Try.func86, Try.ntmps86
  go_wp2
  go_loopw [5] (fun i wr => ∃ (k m : Nat), k ≤ n ∧ i = .int .i64 (k : Int) ∧ Hid (wr = w.drewN m)) (fun i _ => n - (intOf i).toNat)
  case atStart => exact ⟨0, 0, by omega, rfl, hid rfl⟩
  case round =>
    obtain ⟨k, m, hk, rfl, HW⟩ := hrel
    by_cases hlt : k < n
    · have hlt' : (k : Int) < (n : Int) := by omega
      have c1 : wr.cell? ⟨b1, k, none⟩ = some (.complex .f32 0 0) := by rw [HW.out, World.cell?_drewN, cell_at H1.out]; exact Z1.out k hlt
      have c2 : wr.cell? ⟨b2, k, none⟩ = some (.complex .f32 0 0) := by rw [HW.out, World.cell?_drewN, cell_at H2.out]; exact Z2.out k hlt
      have f0 := fun w => fconv_of zero_conv w
      have f1 := fconvAsk_of zero_conv
      go_wp2
      go_quiet ((go_at_call 89; exact Calls.quiet_of (sameComplex_calls _ _ _ _ _ sameF_zero sameF_zero)))
      go_wp2
      go_roundw
      case rel => exact ⟨k + 1, _, by omega, by go_num, hid (by rw [HW.out, World.drewN_drewN])⟩
      case measure => simp [intOf]; omega
    · have hlt' : ¬ (k : Int) < (n : Int) := by omega
      go_wp2
      go_ret
      exact ⟨rfl, _, HW.out⟩

set_option maxHeartbeats 1000000 in
theorem markC_g (w : World) (b n p1 : Nat) (hn : n ≤ 16) (arr : Array Value) (ha : n ≤ arr.size) (k : Int) (k0 : 0 ≤ k) (k1 : k ≤ 20) (hb : w.heap[b]? = some (.cells arr 33 (0, 0))) :
    Calls Try.prog 87 #[.slice (some ⟨b, 0, none⟩) n p1, .int .i64 k] w (RMark w b n arr k) := by
  have HB := hid hb
  clear hb
  go_enter Try.func87, Try.ntmps87
  go_wp2
  go_loopw [1, 5] (fun q i wr => ∃ (j : Nat), j ≤ n ∧ i = .int .i64 (j : Int) ∧ q = .int .i64 (k + j) ∧ Hid (wr.heap[b]? = some (.cells (markTo arr k j) 33 (0, 0))) ∧ Chg (fun j => j = b) w wr) (fun _ i _ => n - (intOf i).toNat)
  case atStart => exact ⟨0, by omega, rfl, by simp, hid HB.out, Chg.refl _ w⟩
  case round =>
    obtain ⟨j, hj, rfl, rfl, HW, g⟩ := hrel
    by_cases hlt : j < n
    · have hlt' : (j : Int) < (n : Int) := by omega
      obtain ⟨s1, s2⟩ := small_int (k + j) (by omega) (by omega)
      have c1 := fun w => fconv_of s1 w
      have c2 := fconvAsk_of s1
      have c3 := fun w => fconv_of one_conv w
      have c4 := fconvAsk_of one_conv
      clear s1 s2
      obtain ⟨x, hx⟩ : ∃ x, (markTo arr k j)[j]? = some x := ⟨(markTo arr k j)[j]'(by rw [markTo_size]; omega), by simp⟩
      have hcell : wr.cell? ⟨b, j, none⟩ = some x := by rw [cell_at HW.out, hx]
      have hfree : wr.frozen? ⟨b, j, none⟩ = false := free_at HW.out
      clear hx
      go_wp2
      go_roundw
      case rel => exact ⟨j + 1, by omega, by go_num, by go_num, hid (heap_set HW.out), g.setCell (.inl rfl) _⟩
      case measure => simp [intOf]; omega
    · have hlt' : ¬ (j : Int) < (n : Int) := by omega
      obtain rfl : j = n := by omega
      go_wp2
      go_ret
      exact ⟨rfl, HW.out, g⟩

set_option maxHeartbeats 1000000 in
theorem heldC_g (w : World) (b n p1 : Nat) (hn : n ≤ 16) (arr : Array Value) (ha : n ≤ arr.size) (k : Int) (k0 : 0 ≤ k) (k1 : k ≤ 20) (hb : w.heap[b]? = some (.cells (markTo arr k n) 33 (0, 0))) :
    Calls Try.prog 88 #[.slice (some ⟨b, 0, none⟩) n p1, .int .i64 k] w (fun e w' => e = .returned (.int .i64 (k + n)) ∧ w = w') := by
  have HB := hid hb
  clear hb
  go_enter Try.func88, Try.ntmps88
  go_wp2
  go_loop [1, 5] (fun q i => ∃ (j : Nat), j ≤ n ∧ i = .int .i64 (j : Int) ∧ q = .int .i64 (k + j)) (fun _ i => n - (intOf i).toNat)
  case atStart => exact ⟨0, by omega, rfl, by simp⟩
  case round =>
    obtain ⟨j, hj, rfl, rfl⟩ := hrel
    by_cases hlt : j < n
    · have hlt' : (j : Int) < (n : Int) := by omega
      obtain ⟨s1, s2⟩ := small_int (k + j) (by omega) (by omega)
      have c1 := fun w => fconv_of s1 w
      have c2 := fconvAsk_of s1
      have c3 := fun w => fconv_of one_conv w
      have c4 := fconvAsk_of one_conv
      have c5 := order_mk (k + j) (by omega) (by omega)
      have c6 := order_one
      clear s1 s2
      have hcell : w.cell? ⟨b, j, none⟩ = some (.complex .f32 (floatOfInt .f32 (k + j)) 1065353216) := by
        rw [cell_at HB.out, markTo_get arr k n j hlt ha]; rfl
      go_wp2
      go_round
      case rel => exact ⟨j + 1, by omega, by go_num, by go_num⟩
      case measure => simp [intOf]; omega
    · have hlt' : ¬ (j : Int) < (n : Int) := by omega
      obtain rfl : j = n := by omega
      go_wp2
      go_ret
      exact ⟨rfl, rfl⟩

set_option maxHeartbeats 400000 in
theorem eqRing_zs (w : World) (b1 b2 n p1 p2 : Nat) (x y : Int) (hn : n ≤ 16) (h1 : Zs w b1 n) (h2 : Zs w b2 n) :
    Calls Try.prog 24 #[.agg #[.slice (some ⟨b1, 0, none⟩) n p1, .int .i64 x, .int .i64 y], .agg #[.slice (some ⟨b2, 0, none⟩) n p2, .int .i64 x, .int .i64 y]] w (RT w) := by
  have l1 := h1.lt
  have l2 := h2.lt
  have H1 := hid h1
  have H2 := hid h2
  clear h1 h2
  go_enter Try.func24, Try.ntmps24
  go_wp2_with fail
  refine (eqC_zs _ b1 b2 n p1 p2 hn (H1.out.chg (((Chg.refl (fun _ => False) w).alloc _).alloc _) id) (H2.out.chg (((Chg.refl (fun _ => False) w).alloc _).alloc _) id)).mono ?_
  rintro e w1 ⟨rfl, m, rfl⟩
  go_wp2_with fail
  go_ret
  exact ⟨rfl, (((Chg.refl _ w).alloc _).alloc _).drewN _⟩

set_option maxHeartbeats 400000 in
theorem markRing_g (w : World) (b n p1 : Nat) (x y : Int) (hn : n ≤ 16) (arr : Array Value) (ha : n ≤ arr.size) (k : Int) (k0 : 0 ≤ k) (k1 : k ≤ 20) (hb : w.heap[b]? = some (.cells arr 33 (0, 0))) :
    Calls Try.prog 25 #[.agg #[.slice (some ⟨b, 0, none⟩) n p1, .int .i64 x, .int .i64 y], .int .i64 k] w (RMark w b n arr k) := by
  have HB := hid hb
  clear hb
  go_enter Try.func25, Try.ntmps25
  go_wp2_with fail
  refine (markC_g _ b n p1 hn arr ha k k0 k1 ((Chg.refl (fun _ => False) w).alloc _ |>.heap HB.out id)).mono ?_
  rintro e w1 ⟨rfl, hb1, g1⟩
  go_wp2_with fail
  go_ret
  exact ⟨rfl, hb1, ((Chg.refl _ w).alloc _).trans g1 fun _ _ h => h⟩

set_option maxHeartbeats 400000 in
theorem heldRing_g (w : World) (b n p1 : Nat) (x y : Int) (hn : n ≤ 16) (arr : Array Value) (ha : n ≤ arr.size) (k : Int) (k0 : 0 ≤ k) (k1 : k ≤ 20) (hb : w.heap[b]? = some (.cells (markTo arr k n) 33 (0, 0))) :
    Calls Try.prog 26 #[.agg #[.slice (some ⟨b, 0, none⟩) n p1, .int .i64 x, .int .i64 y], .int .i64 k] w (fun e w' => e = .returned (.int .i64 (k + n)) ∧ Chg (fun _ => False) w w') := by
  have HB := hid hb
  clear hb
  go_enter Try.func26, Try.ntmps26
  go_wp2_with fail
  refine (heldC_g _ b n p1 hn arr ha k k0 k1 ((Chg.refl (fun _ => False) w).alloc _ |>.heap HB.out id)).mono ?_
  rintro e w1 ⟨rfl, rfl⟩
  go_wp2_with fail
  go_ret
  exact ⟨rfl, (Chg.refl _ w).alloc _⟩

set_option maxHeartbeats 1000000 in
theorem eqModule_zs (w : World) (b1 b2 n p1 p2 : Nat) (hn : n ≤ 16) (h1 : Zs w b1 n) (h2 : Zs w b2 n) (kind x y ct lf : Int) (t1 t2 s1 s2 lv : Nat) : Calls Try.prog 29 #[.agg #[.int .i64 (kind), .complex .f32 t1 t2, .complex .f32 s1 s2, .float .f32 lv, .slice (some ⟨b1, 0, none⟩) n p1, .int .i64 (x), .int .i64 (y), .slice none 0 0, .slice none 0 0, .int .i64 (ct), .int .i64 (lf)], .agg #[.int .i64 (kind), .complex .f32 t1 t2, .complex .f32 s1 s2, .float .f32 lv, .slice (some ⟨b2, 0, none⟩) n p2, .int .i64 (x), .int .i64 (y), .slice none 0 0, .slice none 0 0, .int .i64 (ct), .int .i64 (lf)]] w (RT w) := by
  have H1 := hid h1
  have H2 := hid h2
  have l1 := h1.lt
  have l2 := h2.lt
  clear h1 h2
  go_enter Try.func29, Try.ntmps29
  go_wp2_with fail
  refine (sameComplex_calls _ _ _ _ _ (sameF_conv _ _ _) (sameF_conv _ _ _)).mono ?_
  rintro e w1 ⟨rfl, m1, rfl⟩
  go_wp2_with fail
  refine (sameComplex_calls _ _ _ _ _ (sameF_conv _ _ _) (sameF_conv _ _ _)).mono ?_
  rintro e w1 ⟨rfl, m2, rfl⟩
  go_wp2_with fail
  refine (sameFloat_calls _ _ _ (sameF_conv _ _ _)).mono ?_
  rintro e w1 ⟨rfl, m3, rfl⟩
  go_wp2_with fail
  refine (eqRing_zs _ b1 b2 n p1 p2 x y hn (H1.out.chg ((((Chg.refl (fun _ => False) w).alloc _).alloc _).drewN _) id) (H2.out.chg ((((Chg.refl (fun _ => False) w).alloc _).alloc _).drewN _) id)).mono ?_
  rintro e w2 ⟨rfl, g2⟩
  have hs2 := g2.size
  simp at hs2
  have c1 := cells_at (g2.heap (heap_old (heap_new w _)) id)
  have c2 := cells_at (g2.heap (heap_new' (b := w.heap.size + 1) (by simp)) id)
  go_wp2_with fail
  refine (eqTable_nil _).mono ?_
  rintro e w3 ⟨rfl, g3⟩
  have d1 := cells_at (g3.heap (g2.heap (heap_old (heap_new w _)) id) id)
  have d2 := cells_at (g3.heap (g2.heap (heap_new' (b := w.heap.size + 1) (by simp)) id) id)
  clear c1 c2
  go_wp2_with fail
  go_ret
  exact ⟨rfl, (((((Chg.refl _ w).alloc _).alloc _).drewN _).trans g2 fun _ _ h => h).trans g3 fun _ _ h => h⟩

set_option maxHeartbeats 1000000 in
theorem markModule_g (w : World) (b n p1 : Nat) (hn : n ≤ 16) (arr : Array Value) (ha : n ≤ arr.size) (hb : w.heap[b]? = some (.cells arr 33 (0, 0))) (kind x y ct lf k : Int) (t1 t2 s1 s2 lv : Nat) (k0 : 0 ≤ k) (k1 : k ≤ 20) : Calls Try.prog 30 #[.agg #[.int .i64 (kind), .complex .f32 t1 t2, .complex .f32 s1 s2, .float .f32 lv, .slice (some ⟨b, 0, none⟩) n p1, .int .i64 (x), .int .i64 (y), .slice none 0 0, .slice none 0 0, .int .i64 (ct), .int .i64 (lf)], .int .i64 k] w (RMark w b n arr k)  := by
  have lb := heap_lt hb
  have HB := hid hb
  clear hb
  go_enter Try.func30, Try.ntmps30
  go_wp2_with fail
  refine (markRing_g _ b n p1 x y hn arr ha k k0 k1 (heap_old HB.out)).mono ?_
  rintro e w1 ⟨rfl, hb1, g1⟩
  have HB1 := hid hb1
  clear hb1
  have s1' := g1.size
  have c1 := cells_at (g1.heap (heap_new w _) (by omega))
  go_wp2_with fail
  refine (markTable_nil _ (k + n)).mono ?_
  rintro e w2 ⟨rfl, g2⟩
  go_wp2_with fail
  go_ret
  exact ⟨rfl, g2.heap HB1.out id, (((Chg.refl (fun j => j = b) w).alloc _).trans g1 fun _ _ h => h).trans g2 fun _ _ h => h.elim⟩

set_option maxHeartbeats 1000000 in
theorem heldModule_g (w : World) (b n p1 : Nat) (hn : n ≤ 16) (arr : Array Value) (ha : n ≤ arr.size) (kind x y ct lf k : Int) (t1 t2 s1 s2 lv : Nat) (k0 : 0 ≤ k) (k1 : k ≤ 20) (hb : w.heap[b]? = some (.cells (markTo arr k n) 33 (0, 0))) : Calls Try.prog 31 #[.agg #[.int .i64 (kind), .complex .f32 t1 t2, .complex .f32 s1 s2, .float .f32 lv, .slice (some ⟨b, 0, none⟩) n p1, .int .i64 (x), .int .i64 (y), .slice none 0 0, .slice none 0 0, .int .i64 (ct), .int .i64 (lf)], .int .i64 k] w (fun e w' => e = .returned (.int .i64 (k + n)) ∧ Chg (fun _ => False) w w') := by
  have lb := heap_lt hb
  have HB := hid hb
  clear hb
  go_enter Try.func31, Try.ntmps31
  go_wp2_with fail
  refine (heldRing_g _ b n p1 x y hn arr ha k k0 k1 (heap_old HB.out)).mono ?_
  rintro e w1 ⟨rfl, g1⟩
  have s1' := g1.size
  have c1 := cells_at (g1.heap (heap_new w _) id)
  go_wp2_with fail
  refine (heldTable_nil _ (k + n) (by omega)).mono ?_
  rintro e w2 ⟨rfl, g2⟩
  go_wp2_with fail
  go_ret
  exact ⟨rfl, (((Chg.refl _ w).alloc _).trans g1 fun _ _ h => h).trans g2 fun _ _ h => h⟩

end Go.Proofs.Ytopkehknaclhlaa
