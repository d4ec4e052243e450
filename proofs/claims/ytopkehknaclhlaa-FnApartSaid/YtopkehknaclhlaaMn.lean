/- Frames: how they lie in memory, when they are equal, where one is found. Conditions: as each says. -/
import Derived.Test.YtopkehknaclhlaaMc
namespace Go.Proofs.Ytopkehknaclhlaa
open Go Go.RowKit

/-- A frame, by its eight samples. -/
abbrev Fr8 := Nat → Nat × Nat
/-- Its cells. -/
abbrev FA (f : Fr8) : Array Value := #[.complex .f32 (f 0).1 (f 0).2, .complex .f32 (f 1).1 (f 1).2, .complex .f32 (f 2).1 (f 2).2, .complex .f32 (f 3).1 (f 3).2, .complex .f32 (f 4).1 (f 4).2, .complex .f32 (f 5).1 (f 5).2, .complex .f32 (f 6).1 (f 6).2, .complex .f32 (f 7).1 (f 7).2]

theorem FA_get (f : Fr8) {j : Nat} (h : j < 8) : (FA f)[j]? = some (.complex .f32 (f j).1 (f j).2) := by
  rcases (by omega : j = 0 ∨ j = 1 ∨ j = 2 ∨ j = 3 ∨ j = 4 ∨ j = 5 ∨ j = 6 ∨ j = 7) with rfl | rfl | rfl | rfl | rfl | rfl | rfl | rfl <;> rfl

/-- Eight complex numbers are a frame's. -/
theorem FA_of (arr : Array Value) (hs : arr.size = 8) (h : ∀ j, j < 8 → ∃ x y, arr[j]? = some (.complex .f32 x y)) : ∃ f, arr = FA f := by
  have g : ∀ j, ∃ z : Nat × Nat, j < 8 → arr[j]? = some (.complex .f32 z.1 z.2) := fun j => by
    by_cases hj : j < 8
    · obtain ⟨x, y, e⟩ := h j hj; exact ⟨(x, y), fun _ => e⟩
    · exact ⟨(0, 0), fun h => absurd h hj⟩
  refine ⟨fun j => Classical.choose (g j), ?_⟩
  apply Array.ext_getElem?
  intro j
  by_cases hj : j < 8
  · rw [Classical.choose_spec (g j) hj]
    exact (FA_get (fun j => Classical.choose (g j)) hj).symm
  · rw [Array.getElem?_eq_none (by omega), Array.getElem?_eq_none (by show 8 ≤ j; omega)]

theorem infoF : ∃ i z, Try.prog.info? 59 = some i ∧ i.zero = some z ∧ i.size = 8 ∧ i.bytes = 64 ∧ z.cells.size = 8 := by
  have h : (Try.prog.info? 59).map (fun i => (i.zero.map (fun z => z.cells.size), i.size, i.bytes)) = some (some 8, 8, 64) := by kernel_rfl
  cases hi : Try.prog.info? 59 with
  | none => rw [hi] at h; cases h
  | some i =>
    rw [hi] at h
    simp only [Option.map_some, Option.some.injEq, Prod.mk.injEq] at h
    obtain ⟨h1, h2, h3⟩ := h
    cases hz : i.zero with
    | none => rw [hz] at h1; cases h1
    | some z =>
      rw [hz] at h1
      exact ⟨i, z, rfl, hz, h2, h3, by simpa using h1⟩

def encF : Enc Fr8 where
  T := 49
  E := 59
  k := 8
  bytes := 64
  cells f := (FA f).toList
  len _ := rfl
  one f u hu := by
    simp at hu
    rcases hu with rfl | rfl | rfl | rfl | rfl | rfl | rfl | rfl <;> rfl
  pos := by decide
  small := by decide
  under := Try.underlying49
  info := infoF

/-- A slice of frames. -/
abbrev OwnF (w : World) (base : Nat) (v : Value) (fs : List Fr8) : Prop := OwnR encF w base v fs

/-- Are two numbers equal? -/
def eqW (x y : Nat) : Bool := FloatKind.f32.format.order x y == some .eq
def eqC (p q : Nat × Nat) : Bool := eqW p.1 q.1 && eqW p.2 q.2
def eqFr (f g : Fr8) : Bool := (List.range 8).all fun j => eqC (f j) (g j)

theorem eqW_key (x y : Nat) : eqW x y = (!isN .f32 x && !isN .f32 y && decide (key x = key y)) := by
  unfold eqW
  cases hx : isN .f32 x
  · cases hy : isN .f32 y
    · rw [order_key x y hx hy]
      rcases Int.lt_trichotomy (key x) (key y) with h | h | h
      · rw [Int.compare_eq_lt.mpr h]; simp; omega
      · rw [Int.compare_eq_eq.mpr h]; simp [h]
      · rw [Int.compare_eq_gt.mpr h]; simp; omega
    · rw [order_nan_right _ _ _ hy]; rfl
  · rw [order_nan_left _ _ _ hx]; rfl
theorem eqW_iff (x y : Nat) : eqW x y = true ↔ isN .f32 x = false ∧ isN .f32 y = false ∧ key x = key y := by
  rw [eqW_key]; simp [and_assoc]
theorem eqC_iff (p q : Nat × Nat) : eqC p q = true ↔ eqW p.1 q.1 = true ∧ eqW p.2 q.2 = true := by unfold eqC; simp
theorem eqFr_iff (f g : Fr8) : eqFr f g = true ↔ ∀ j, j < 8 → eqC (f j) (g j) = true := by unfold eqFr; simp

theorem eqW_symm {x y : Nat} (h : eqW x y = true) : eqW y x = true := by rw [eqW_iff] at *; exact ⟨h.2.1, h.1, h.2.2.symm⟩
theorem eqW_trans {x y z : Nat} (h : eqW x y = true) (k : eqW y z = true) : eqW x z = true := by rw [eqW_iff] at *; exact ⟨h.1, k.2.1, h.2.2.trans k.2.2⟩
theorem eqFr_symm {f g : Fr8} (h : eqFr f g = true) : eqFr g f = true := by
  rw [eqFr_iff] at *
  exact fun j hj => by have := h j hj; rw [eqC_iff] at *; exact ⟨eqW_symm this.1, eqW_symm this.2⟩
theorem eqFr_trans {f g k : Fr8} (h : eqFr f g = true) (h2 : eqFr g k = true) : eqFr f k = true := by
  rw [eqFr_iff] at *
  exact fun j hj => by have a := h j hj; have b := h2 j hj; rw [eqC_iff] at *; exact ⟨eqW_trans a.1 b.1, eqW_trans a.2 b.2⟩

theorem EqualPoints_calls (w : World) (a b c d : Nat) : Calls Try.prog 102 #[.complex .f32 a b, .complex .f32 c d] w (fun e w' => e = .returned (.bool (eqC (a, b) (c, d))) ∧ w = w') := by
  cases h1 : (FloatKind.f32.format.order a c == some .eq)
  · have e : eqC (a, b) (c, d) = false := by unfold eqC eqW; rw [h1]; rfl
    rw [e]
    clear e
    go_enter Try.func102, Try.ntmps102
    go_wp2
    go_ret
    exact ⟨rfl, rfl⟩
  · cases h2 : (FloatKind.f32.format.order b d == some .eq)
    · have e : eqC (a, b) (c, d) = false := by unfold eqC eqW; rw [h1, h2]; rfl
      rw [e]
      clear e
      go_enter Try.func102, Try.ntmps102
      go_wp2
      go_ret
      exact ⟨rfl, rfl⟩
    · have e : eqC (a, b) (c, d) = true := by unfold eqC eqW; rw [h1, h2]; rfl
      rw [e]
      clear e
      go_enter Try.func102, Try.ntmps102
      go_wp2
      go_ret
      exact ⟨rfl, rfl⟩

theorem eqFr_false {f g : Fr8} {j : Nat} (h : j < 8) (e : eqC (f j) (g j) = false) : eqFr f g = false := by
  cases hx : eqFr f g
  · rfl
  · rw [eqFr_iff] at hx; rw [hx j h] at e; cases e

set_option maxHeartbeats 1000000 in
theorem EqualFrames_calls (w : World) (f g : Fr8) : Calls Try.prog 48 #[.agg (FA f), .agg (FA g)] w (fun e w' => e = .returned (.bool (eqFr f g)) ∧ Chg (fun _ => False) w w') := by
  have H1 := hid (heap_old (o' := .cells (FA g) 59) (heap_new w (.cells (FA f) 59)))
  have H2 := hid (heap_new' (w := w.alloc (.cells (FA f) 59)) (o := .cells (FA g) 59) (b := w.heap.size + 1) (by simp))
  have G := hid (((Chg.refl (fun _ => False) w).alloc (.cells (FA f) 59)).alloc (.cells (FA g) 59))
  go_enter Try.func48, Try.ntmps48
  go_wp2_with fail
  generalize (w.alloc (.cells (FA f) 59)).alloc (.cells (FA g) 59) = w1 at *
  go_loopw [6] (fun i wr => ∃ k : Nat, k ≤ 8 ∧ i = .int .i64 (k : Int) ∧ Hid (∀ j, j < k → eqC (f j) (g j) = true) ∧ Hid (wr.heap[w.heap.size]? = some (.cells (FA f) 59 (0, 0))) ∧ Hid (wr.heap[w.heap.size + 1]? = some (.cells (FA g) 59 (0, 0))) ∧ Hid (Chg (fun _ => False) w wr)) (fun i _ => 8 - (intOf i).toNat)
  case atStart => exact ⟨0, by omega, rfl, hid (fun j hj => by omega), H1, H2, G⟩
  case round =>
    obtain ⟨k, hk, rfl, HE, H1, H2, G⟩ := hrel
    by_cases hlt : k < 8
    · have hlt' : (k : Int) < 8 := by omega
      have c1 : wr.cell? ⟨w.heap.size, k, none⟩ = some (.complex .f32 (f k).1 (f k).2) := (cell_at H1.out).trans (FA_get f hlt)
      have c2 : wr.cell? ⟨w.heap.size + 1, k, none⟩ = some (.complex .f32 (g k).1 (g k).2) := (cell_at H2.out).trans (FA_get g hlt)
      cases he : eqC (f k) (g k)
      · have HF := hid (eqFr_false hlt he)
        have HC := hid (show eqC ((f k).1, (f k).2) ((g k).1, (g k).2) = false from he)
        clear he
        go_wp2_with fail
        go_quiet ((go_at_call 102; exact Calls.quiet_of_same ((EqualPoints_calls _ _ _ _ _).mono fun _ _ h => ⟨h.1.trans (by rw [HC.out]), h.2.symm⟩)))
        go_wp2
        go_ret
        exact ⟨by simp [HF.out], G.out.drewN _⟩
      · have HC := hid (show eqC ((f k).1, (f k).2) ((g k).1, (g k).2) = true from he)
        clear he
        go_wp2_with fail
        go_quiet ((go_at_call 102; exact Calls.quiet_of_same ((EqualPoints_calls _ _ _ _ _).mono fun _ _ h => ⟨h.1.trans (by rw [HC.out]), h.2.symm⟩)))
        go_wp2
        go_roundw
        case rel => exact ⟨k + 1, by omega, by go_num, hid (fun j hj => by
          rcases (by omega : j < k ∨ j = k) with h | rfl
          · exact HE.out j h
          · exact HC.out), H1, H2, hid (G.out.drewN _)⟩
        case measure => simp [intOf]; omega
    · obtain rfl : k = 8 := by omega
      have hlt' : ¬ ((8 : Nat) : Int) < 8 := by omega
      go_wp2
      go_ret
      refine ⟨?_, G.out⟩
      simp [(eqFr_iff f g).mpr HE.out]
end Go.Proofs.Ytopkehknaclhlaa

/- A frame is found: the index of the first one that is equal. Conditions: at most 2^20 frames. -/
namespace Go.Proofs.Ytopkehknaclhlaa
open Go Go.RowKit

/-- The index of the first frame that is equal; -1 if there is none. -/
def IdxF (fs : List Fr8) (f : Fr8) (r : Int) : Prop :=
  (r = -1 ∧ ∀ g ∈ fs, eqFr g f = false) ∨ (∃ i : Nat, ∃ h : i < fs.length, r = (i : Int) ∧ eqFr fs[i] f = true ∧ ∀ j (hj : j < i), eqFr (fs[j]'(by omega)) f = false)
def RIdxF (w : World) (fs : List Fr8) (f : Fr8) (e : Ending) (w' : World) : Prop := ∃ r : Int, IdxF fs f r ∧ -1 ≤ r ∧ r < fs.length ∧ e = .returned (.int .i64 r) ∧ Chg (fun _ => False) w w'

theorem closure_calls (w : World) (g f : Fr8) (b : Nat) (hb : w.heap[b]? = some (.cells (FA f) 59 (0, 0))) :
    Calls Try.prog 101 #[.agg (FA g), .pointer (some ⟨b, 0, none⟩)] w (fun e w' => e = .returned (.bool (eqFr g f)) ∧ Chg (fun _ => False) w w') := by
  have kb := cells_at (heap_old (o' := .cells (FA g) 59) hb)
  have kb' := cells_at hb
  clear hb
  go_enter Try.func101, Try.ntmps101
  go_wp2_with fail
  refine (EqualFrames_calls _ g f).mono ?_
  rintro e w1 ⟨rfl, g1⟩
  go_wp2_with fail
  go_ret
  exact ⟨rfl, ((Chg.refl (fun _ => False) w).alloc _).trans g1 fun _ _ h => h⟩

/-- A frame of a list, as cells. -/
theorem OwnF.frame {w : World} {base n : Nat} {v : Value} {fs : List Fr8} (h : OwnF w base v fs) (hl : fs.length = n) {k : Nat} (hk : k < n) : ∃ g c, v = .slice (some ⟨g, 0, none⟩) n c ∧ base ≤ g ∧ g < w.heap.size ∧ n ≤ c ∧ ∃ f, fs[k]? = some f ∧ ∀ j, j < 8 → w.cell? ⟨g, k * 8 + j, none⟩ = (FA f)[j]? := by
  obtain ⟨g, c, cur, hv, hb, hg, hc, hh, hs, hcell⟩ := h.row hl (by omega)
  refine ⟨g, c, hv, hb, hg, hc, fs[k]'(by omega), by simp [hl, hk], fun j hj => ?_⟩
  rw [cell_at hh]
  have e := hcell k j hk hj
  rw [show encF.k = 8 from rfl] at e
  rw [e]
  show (FA (fs[k]'(by omega))).toList[j]? = _
  rw [Array.getElem?_toList]

set_option maxRecDepth 100000 in
set_option maxHeartbeats 2000000 in
theorem IndexFunc_frames (w : World) (fs : List Fr8) (f : Fr8) (v : Value) (b : Nat) (hl : fs.length ≤ 1048576) (ho : OwnF w 0 v fs) (hb : w.heap[b]? = some (.cells (FA f) 59 (0, 0))) :
    Calls Try.prog 100 #[v, .func (Fn.func 101) #[] #[.pointer (some ⟨b, 0, none⟩)]] w (RIdxF w fs f) := by
  obtain ⟨a, c, rfl⟩ := ho.form
  obtain ⟨n, hn⟩ : ∃ n, fs.length = n := ⟨_, rfl⟩
  have HN := hid hn
  have HO := hid ho
  have HB := hid hb
  rw [hn] at hl ⊢
  simp only [hn] at HO
  clear hn ho hb
  go_enter Try.func100, Try.ntmps100
  go_wp2_with fail
  go_loopw [8] (fun i wr => ∃ k : Nat, k ≤ n ∧ i = .int .i64 (k : Int) ∧ Hid (∀ j (hj : j < k) (hj2 : j < fs.length), eqFr fs[j] f = false) ∧ Hid (OwnF wr 0 (.slice a n c) fs) ∧ Hid (wr.heap[b]? = some (.cells (FA f) 59 (0, 0))) ∧ Hid (Chg (fun _ => False) w wr)) (fun i _ => n - (intOf i).toNat)
  case atStart => exact ⟨0, by omega, rfl, hid (fun j hj => by omega), HO, HB, hid (Chg.refl _ w)⟩
  case round =>
    obtain ⟨k, hk, rfl, HE, HO, HB, G⟩ := hrel
    by_cases hlt : k < n
    · have hlt' : (k : Int) < (n : Int) := by omega
      obtain ⟨g, c', hv, hg0, hg1, hgc, x, hxk, hcells⟩ := HO.out.frame HN.out hlt
      simp at hv
      obtain ⟨rfl, rfl⟩ := hv
      have HX := hid hxk
      have c0 := hcells 0 (by omega)
      have c1 := hcells 1 (by omega)
      have c2 := hcells 2 (by omega)
      have c3 := hcells 3 (by omega)
      have c4 := hcells 4 (by omega)
      have c5 := hcells 5 (by omega)
      have c6 := hcells 6 (by omega)
      have c7 := hcells 7 (by omega)
      simp only [Nat.add_zero] at c0
      clear hcells hxk
      have hc := closure_calls wr x f b HB.out
      have HXK := hid (show ∀ h : k < fs.length, fs[k] = x from fun h => by have := HX.out; rw [List.getElem?_eq_getElem h] at this; exact Option.some.inj this)
      cases he : eqFr x f
      · rw [he] at hc
        have HC := hid hc
        have HE2 := hid (show ∀ j (hj : j < k + 1) (hj2 : j < fs.length), eqFr fs[j] f = false from fun j hj hj2 => by
          rcases (by omega : j < k ∨ j = k) with h | rfl
          · exact HE.out j h hj2
          · rw [HXK.out hj2]; exact he)
        clear hc he HE
        go_wp2_with fail
        refine HC.out.mono ?_
        rintro e w1 ⟨rfl, g1⟩
        have HO1 := hid (HO.out.chg g1 fun _ _ _ h => h)
        have HB1 := hid (g1.heap HB.out id)
        have G1 := hid (G.out.trans g1 fun _ _ h => h)
        clear c0 c1 c2 c3 c4 c5 c6 c7 HO HB G g1 HC
        go_wp2_with fail
        go_roundw
        case rel => exact ⟨k + 1, by omega, by go_num, HE2, HO1, HB1, G1⟩
        case measure => simp [intOf]; omega
      · rw [he] at hc
        have HC := hid hc
        have HE2 := hid he
        clear hc he
        go_wp2_with fail
        refine HC.out.mono ?_
        rintro e w1 ⟨rfl, g1⟩
        go_wp2_with fail
        go_ret
        have hk2 : k < fs.length := by have := HN.out; omega
        exact ⟨k, .inr ⟨k, hk2, rfl, by rw [HXK.out hk2]; exact HE2.out, fun j hj => HE.out j hj (by omega)⟩, by omega, by have := HN.out; omega, rfl, G.out.trans g1 fun _ _ h => h⟩
    · obtain rfl : k = n := by omega
      have hlt' : ¬ (k : Int) < (k : Int) := by omega
      go_wp2
      go_ret
      refine ⟨-1, .inl ⟨rfl, fun g hg => ?_⟩, by omega, by omega, rfl, G.out⟩
      obtain ⟨j, hj, rfl⟩ := List.mem_iff_getElem.mp hg
      exact HE.out j (by have := HN.out; omega) hj

set_option maxHeartbeats 1000000 in
theorem FindFrame_calls (w : World) (fs : List Fr8) (f : Fr8) (v : Value) (hl : fs.length ≤ 1048576) (ho : OwnF w 0 v fs) : Calls Try.prog 47 #[v, .agg (FA f)] w (RIdxF w fs f) := by
  obtain ⟨a, c, rfl⟩ := ho.form
  have HO := hid (ho.chg ((Chg.refl (fun _ => False) w).alloc (.cells (FA f) 59)) fun _ _ _ h => h)
  have HB := hid (heap_new w (.cells (FA f) 59))
  clear ho
  go_enter Try.func47, Try.ntmps47
  go_wp2_with fail
  refine (IndexFunc_frames _ fs f _ w.heap.size hl HO.out HB.out).mono ?_
  rintro e w1 ⟨r, hr, r1, r2, rfl, g1⟩
  go_wp2_with fail
  go_ret
  exact ⟨r, hr, r1, r2, rfl, ((Chg.refl (fun _ => False) w).alloc _).trans g1 fun _ _ h => h⟩
end Go.Proofs.Ytopkehknaclhlaa
