/- Frames: how they lie in memory, when they are equal, where one is found. Conditions: as each says. -/
import Derived.Test.YtopkehknaclhlaaRo
import Derived.Test.YtopkehknaclhlaaFo
namespace Go.Proofs.Ytopkehknaclhlaa
open Go Go.RowKit

/-- A frame, by its eight samples. -/
abbrev Fr8 := Nat → Nat × Nat
/-- Its cells. -/
abbrev FA (f : Fr8) : Array Value := #[.complex .f32 (f 0).1 (f 0).2, .complex .f32 (f 1).1 (f 1).2, .complex .f32 (f 2).1 (f 2).2, .complex .f32 (f 3).1 (f 3).2, .complex .f32 (f 4).1 (f 4).2, .complex .f32 (f 5).1 (f 5).2, .complex .f32 (f 6).1 (f 6).2, .complex .f32 (f 7).1 (f 7).2]

theorem FA_get (f : Fr8) {j : Nat} (h : j < 8) : (FA f)[j]? = some (.complex .f32 (f j).1 (f j).2) := by
  rcases (by omega : j = 0 ∨ j = 1 ∨ j = 2 ∨ j = 3 ∨ j = 4 ∨ j = 5 ∨ j = 6 ∨ j = 7) with rfl | rfl | rfl | rfl | rfl | rfl | rfl | rfl <;> rfl

/-- Eight complex numbers are a frame's. -/
theorem FA_of (arr : Array Value) (hs : arr.size = 8) (h : ∀ j, j < 8 → ∃ x y, arr[j]? = some (.complex .f32 x y)) : ∃ f, arr = FA f := by
  have g : ∀ j, ∃ z : Nat × Nat, j < 8 → arr[j]? = some (.complex .f32 z.1 z.2) := fun j => by
    by_cases hj : j < 8
    · obtain ⟨x, y, e⟩ := h j hj; exact ⟨(x, y), fun _ => e⟩
    · exact ⟨(0, 0), fun h => absurd h hj⟩
  refine ⟨fun j => Classical.choose (g j), ?_⟩
  apply Array.ext_getElem?
  intro j
  by_cases hj : j < 8
  · rw [Classical.choose_spec (g j) hj]
    exact (FA_get (fun j => Classical.choose (g j)) hj).symm
  · rw [Array.getElem?_eq_none (by omega), Array.getElem?_eq_none (by show 8 ≤ j; omega)]

theorem infoF : ∃ i z, Try.prog.info? 59 = some i ∧ i.zero = some z ∧ i.size = 8 ∧ i.bytes = 64 ∧ z.cells.size = 8 := by
  have h : (Try.prog.info? 59).map (fun i => (i.zero.map (fun z => z.cells.size), i.size, i.bytes)) = some (some 8, 8, 64) := by kernel_rfl
  cases hi : Try.prog.info? 59 with
  | none => rw [hi] at h; cases h
  | some i =>
    rw [hi] at h
    simp only [Option.map_some, Option.some.injEq, Prod.mk.injEq] at h
    obtain ⟨h1, h2, h3⟩ := h
    cases hz : i.zero with
    | none => rw [hz] at h1; cases h1
    | some z =>
      rw [hz] at h1
      exact ⟨i, z, rfl, hz, h2, h3, by simpa using h1⟩

def encF : Enc Fr8 where
  T := 49
  E := 59
  k := 8
  bytes := 64
  cells f := (FA f).toList
  len _ := rfl
  one f u hu := by
    simp at hu
    rcases hu with rfl | rfl | rfl | rfl | rfl | rfl | rfl | rfl <;> rfl
  pos := by decide
  small := by decide
  under := Try.underlying49
  info := infoF

/-- A slice of frames. -/
abbrev OwnF (w : World) (base : Nat) (v : Value) (fs : List Fr8) : Prop := OwnR encF w base v fs

/-- Are two numbers equal? -/
def eqW (x y : Nat) : Bool := FloatKind.f32.format.order x y == some .eq
def eqC (p q : Nat × Nat) : Bool := eqW p.1 q.1 && eqW p.2 q.2
def eqFr (f g : Fr8) : Bool := (List.range 8).all fun j => eqC (f j) (g j)

theorem eqW_key (x y : Nat) : eqW x y = (!isN .f32 x && !isN .f32 y && decide (key x = key y)) := by
  unfold eqW
  cases hx : isN .f32 x
  · cases hy : isN .f32 y
    · rw [order_key x y hx hy]
      rcases Int.lt_trichotomy (key x) (key y) with h | h | h
      · rw [Int.compare_eq_lt.mpr h]; simp; omega
      · rw [Int.compare_eq_eq.mpr h]; simp [h]
      · rw [Int.compare_eq_gt.mpr h]; simp; omega
    · rw [order_nan_right _ _ _ hy]; rfl
  · rw [order_nan_left _ _ _ hx]; rfl
theorem eqW_iff (x y : Nat) : eqW x y = true ↔ isN .f32 x = false ∧ isN .f32 y = false ∧ key x = key y := by
  rw [eqW_key]; simp [and_assoc]
theorem eqC_iff (p q : Nat × Nat) : eqC p q = true ↔ eqW p.1 q.1 = true ∧ eqW p.2 q.2 = true := by unfold eqC; simp
theorem eqFr_iff (f g : Fr8) : eqFr f g = true ↔ ∀ j, j < 8 → eqC (f j) (g j) = true := by unfold eqFr; simp

theorem eqW_symm {x y : Nat} (h : eqW x y = true) : eqW y x = true := by rw [eqW_iff] at *; exact ⟨h.2.1, h.1, h.2.2.symm⟩
theorem eqW_trans {x y z : Nat} (h : eqW x y = true) (k : eqW y z = true) : eqW x z = true := by rw [eqW_iff] at *; exact ⟨h.1, k.2.1, h.2.2.trans k.2.2⟩
theorem eqFr_symm {f g : Fr8} (h : eqFr f g = true) : eqFr g f = true := by
  rw [eqFr_iff] at *
  exact fun j hj => by have := h j hj; rw [eqC_iff] at *; exact ⟨eqW_symm this.1, eqW_symm this.2⟩
theorem eqFr_trans {f g k : Fr8} (h : eqFr f g = true) (h2 : eqFr g k = true) : eqFr f k = true := by
  rw [eqFr_iff] at *
  exact fun j hj => by have a := h j hj; have b := h2 j hj; rw [eqC_iff] at *; exact ⟨eqW_trans a.1 b.1, eqW_trans a.2 b.2⟩

theorem EqualPoints_calls (w : World) (a b c d : Nat) : Calls Try.prog 102 #[.complex .f32 a b, .complex .f32 c d] w (fun e w' => e = .returned (.bool (eqC (a, b) (c, d))) ∧ w = w') := by
  cases h1 : (FloatKind.f32.format.order a c == some .eq)
  · have e : eqC (a, b) (c, d) = false := by unfold eqC eqW; rw [h1]; rfl
    rw [e]
    clear e
    go_enter Try.func102, Try.ntmps102
    go_wp2
    go_ret
    exact ⟨rfl, rfl⟩
  · cases h2 : (FloatKind.f32.format.order b d == some .eq)
    · have e : eqC (a, b) (c, d) = false := by unfold eqC eqW; rw [h1, h2]; rfl
      rw [e]
      clear e
      go_enter Try.func102, Try.ntmps102
      go_wp2
      go_ret
      exact ⟨rfl, rfl⟩
    · have e : eqC (a, b) (c, d) = true := by unfold eqC eqW; rw [h1, h2]; rfl
      rw [e]
      clear e
      go_enter Try.func102, Try.ntmps102
      go_wp2
      go_ret
      exact ⟨rfl, rfl⟩

theorem eqFr_false {f g : Fr8} {j : Nat} (h : j < 8) (e : eqC (f j) (g j) = false) : eqFr f g = false := by
  cases hx : eqFr f g
  · rfl
  · rw [eqFr_iff] at hx; rw [hx j h] at e; cases e

set_option maxHeartbeats 1000000 in
theorem EqualFrames_calls (w : World) (f g : Fr8) : Calls Try.prog 48 #[.agg (FA f), .agg (FA g)] w (fun e w' => e = .returned (.bool (eqFr f g)) ∧ Chg (fun _ => False) w w') := by
  have H1 := hid (heap_old (o' := .cells (FA g) 59) (heap_new w (.cells (FA f) 59)))
  have H2 := hid (heap_new' (w := w.alloc (.cells (FA f) 59)) (o := .cells (FA g) 59) (b := w.heap.size + 1) (by simp))
  have G := hid (((Chg.refl (fun _ => False) w).alloc (.cells (FA f) 59)).alloc (.cells (FA g) 59))
  go_enter Try.func48, Try.ntmps48
  go_wp2_with fail
  generalize (w.alloc (.cells (FA f) 59)).alloc (.cells (FA g) 59) = w1 at *
  go_loopw [6] (fun i wr => ∃ k : Nat, k ≤ 8 ∧ i = .int .i64 (k : Int) ∧ Hid (∀ j, j < k → eqC (f j) (g j) = true) ∧ Hid (wr.heap[w.heap.size]? = some (.cells (FA f) 59 (0, 0))) ∧ Hid (wr.heap[w.heap.size + 1]? = some (.cells (FA g) 59 (0, 0))) ∧ Hid (Chg (fun _ => False) w wr)) (fun i _ => 8 - (intOf i).toNat)
  case atStart => exact ⟨0, by omega, rfl, hid (fun j hj => by omega), H1, H2, G⟩
  case round =>
    obtain ⟨k, hk, rfl, HE, H1, H2, G⟩ := hrel
    by_cases hlt : k < 8
    · have hlt' : (k : Int) < 8 := by omega
      have c1 : wr.cell? ⟨w.heap.size, k, none⟩ = some (.complex .f32 (f k).1 (f k).2) := (cell_at H1.out).trans (FA_get f hlt)
      have c2 : wr.cell? ⟨w.heap.size + 1, k, none⟩ = some (.complex .f32 (g k).1 (g k).2) := (cell_at H2.out).trans (FA_get g hlt)
      cases he : eqC (f k) (g k)
      · have HF := hid (eqFr_false hlt he)
        have HC := hid (show eqC ((f k).1, (f k).2) ((g k).1, (g k).2) = false from he)
        clear he
        go_wp2_with fail
        go_quiet ((go_at_call 102; exact Calls.quiet_of_same ((EqualPoints_calls _ _ _ _ _).mono fun _ _ h => ⟨h.1.trans (by rw [HC.out]), h.2.symm⟩)))
        go_wp2
        go_ret
        exact ⟨by simp [HF.out], G.out.drewN _⟩
      · have HC := hid (show eqC ((f k).1, (f k).2) ((g k).1, (g k).2) = true from he)
        clear he
        go_wp2_with fail
        go_quiet ((go_at_call 102; exact Calls.quiet_of_same ((EqualPoints_calls _ _ _ _ _).mono fun _ _ h => ⟨h.1.trans (by rw [HC.out]), h.2.symm⟩)))
        go_wp2
        go_roundw
        case rel => exact ⟨k + 1, by omega, by go_num, hid (fun j hj => by
          rcases (by omega : j < k ∨ j = k) with h | rfl
          · exact HE.out j h
          · exact HC.out), H1, H2, hid (G.out.drewN _)⟩
        case measure => simp [intOf]; omega
    · obtain rfl : k = 8 := by omega
      have hlt' : ¬ ((8 : Nat) : Int) < 8 := by omega
      go_wp2
      go_ret
      refine ⟨?_, G.out⟩
      simp [(eqFr_iff f g).mpr HE.out]
end Go.Proofs.Ytopkehknaclhlaa
