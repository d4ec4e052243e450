/- Meters: plain law on levels; a meter is told as a module, steps, and tells its level. Conditions: as each says. -/
import Derived.Test.YtopkehknaclhlaaFo
import Derived.Test.YtopkehknaclhlaaPow
import Derived.Test.YtopkehknaclhlaaSm
import Derived.Test.YtopkehknaclhlaaHo
namespace Go.Proofs.Ytopkehknaclhlaa
open Go Go.RowKit

theorem neg_testBit (x : Nat) : (Op.negFloat .f32 x).testBit 31 = !x.testBit 31 := by
  show (x ^^^ 2 ^ 31).testBit 31 = _
  rw [Nat.testBit_xor, Nat.testBit_two_pow_self]
  cases x.testBit 31 <;> rfl
theorem neg_mod (x : Nat) : Op.negFloat .f32 x % 2147483648 = x % 2147483648 := by
  show (x ^^^ 2 ^ 31) % 2 ^ 31 = x % 2 ^ 31
  rw [Nat.xor_mod_two_pow]
  simp
theorem sign_testBit (x : Nat) : (x / 2147483648 % 2 = 1) ↔ x.testBit 31 = true := by
  rw [Nat.testBit_eq_decide_div_mod_eq]
  simp

theorem key_neg (x : Nat) : key (Op.negFloat .f32 x) = -key x := by
  unfold key
  rw [neg_mod]
  have h := sign_testBit x
  have k := sign_testBit (Op.negFloat .f32 x)
  rw [neg_testBit] at k
  cases hx : x.testBit 31
  · rw [hx] at h k
    rw [if_pos (k.mpr rfl), if_neg (by rw [h]; simp)]
  · rw [hx] at h k
    rw [if_neg (by rw [k]; simp), if_pos (h.mpr rfl)]
    simp

theorem isN_rung (x : Nat) : isN .f32 x = decide (2139095040 < x % 2147483648) := by
  by_cases h : 2139095040 < x % 2147483648
  · rw [isN_of_rung h]; simp [h]
  · cases hx : isN .f32 x
    · simp [h]
    · exfalso
      rcases read_single x with ⟨m, e, h1, _, _⟩ | ⟨h1, _⟩ | _
      · have : isN .f32 x = false := by unfold isN FloatKind.decode; rw [show FloatKind.f32.format = Ieee.single from rfl, h1]; rfl
        rw [this] at hx; cases hx
      · have : isN .f32 x = false := by unfold isN FloatKind.decode; rw [show FloatKind.f32.format = Ieee.single from rfl, h1]; rfl
        rw [this] at hx; cases hx
      · unfold isN FloatKind.decode at hx
        have h1 : Ieee.single.signWeight = 2147483648 := by decide
        have h2 : Ieee.single.binade = 8388608 := by decide
        have h3 : Ieee.single.infRung = 2139095040 := by decide
        rw [show FloatKind.f32.format = Ieee.single from rfl] at hx
        unfold Ieee.Format.read at hx
        simp only [h1, h2, h3] at hx
        split at hx
        · cases hx
        · split at hx
          · cases hx
          · split at hx
            · cases hx
            · omega

theorem isN_neg (x : Nat) : isN .f32 (Op.negFloat .f32 x) = isN .f32 x := by rw [isN_rung, isN_rung, neg_mod]

/-- Is the first word's number the greater one? -/
def gtF (x y : Nat) : Bool := FloatKind.f32.format.order x y == some .gt
def ltF (x y : Nat) : Bool := FloatKind.f32.format.order x y == some .lt

theorem gtF_key (x y : Nat) : gtF x y = (!isN .f32 x && !isN .f32 y && decide (key y < key x)) := by
  unfold gtF
  cases hx : isN .f32 x
  · cases hy : isN .f32 y
    · rw [order_key x y hx hy]
      rcases Int.lt_trichotomy (key x) (key y) with h | h | h
      · rw [Int.compare_eq_lt.mpr h]; simp; omega
      · rw [Int.compare_eq_eq.mpr h]; simp; omega
      · rw [Int.compare_eq_gt.mpr h]; simp [h]
    · rw [order_nan_right _ _ _ hy]; rfl
  · rw [order_nan_left _ _ _ hx]; rfl
theorem ltF_key (x y : Nat) : ltF x y = (!isN .f32 x && !isN .f32 y && decide (key x < key y)) := by
  unfold ltF
  cases hx : isN .f32 x
  · cases hy : isN .f32 y
    · rw [order_key x y hx hy]
      rcases Int.lt_trichotomy (key x) (key y) with h | h | h
      · rw [Int.compare_eq_lt.mpr h]; simp [h]
      · rw [Int.compare_eq_eq.mpr h]; simp; omega
      · rw [Int.compare_eq_gt.mpr h]; simp; omega
    · rw [order_nan_right _ _ _ hy]; rfl
  · rw [order_nan_left _ _ _ hx]; rfl

theorem zero_nan : isN .f32 0 = false := by decide +kernel
theorem zero_key : key 0 = 0 := by decide

/-- The absolute value. -/
def sz (x : Nat) : Nat := if ltF x 0 then Op.negFloat .f32 x else x
/-- The greater one of a level and a number. -/
def up (l x : Nat) : Nat := if gtF x l then x else l
/-- A level: 0, or above 0. -/
def Lvl (l : Nat) : Prop := isN .f32 l = false ∧ (l = 0 ∨ 0 < key l)

theorem sz_nan (x : Nat) : isN .f32 (sz x) = isN .f32 x := by
  unfold sz
  split
  · exact isN_neg x
  · rfl
theorem sz_key (x : Nat) (h : isN .f32 x = false) : key (sz x) = if key x < 0 then -key x else key x := by
  unfold sz
  rw [ltF_key, h, zero_nan, zero_key]
  by_cases hk : key x < 0
  · simp [hk, key_neg]
  · simp [hk]

theorem Lvl.up {l : Nat} (h : Lvl l) (x : Nat) : Lvl (up l x) ∧ key (up l x) = if isN .f32 x then key l else if key l < key x then key x else key l := by
  obtain ⟨h1, h2⟩ := h
  have h0 : 0 ≤ key l := by
    rcases h2 with h2 | h2
    · rw [h2, zero_key]; omega
    · omega
  unfold Proofs.Ytopkehknaclhlaa.up
  rw [gtF_key, h1]
  cases hx : isN .f32 x
  · by_cases hk : key l < key x
    · simp only [hk]
      exact ⟨⟨hx, .inr (by simp; omega)⟩, rfl⟩
    · simp only [hk]
      exact ⟨⟨h1, h2⟩, rfl⟩
  · exact ⟨⟨h1, h2⟩, rfl⟩

theorem lvl_zero : Lvl 0 := ⟨zero_nan, .inl rfl⟩

/-- What a meter shows behind a sample; what the law reckons. -/
def upS (l x y : Nat) : Nat := up (up l (sz x)) (sz y)
def upL (l x y : Nat) : Nat := up (up (up (up l x) y) (Op.negFloat .f32 x)) (Op.negFloat .f32 y)

theorem meter_law {l m : Nat} (hl : Lvl l) (hm : Lvl m) (h : key l = key m) (x y : Nat) : Lvl (upS l x y) ∧ Lvl (upL m x y) ∧ key (upS l x y) = key (upL m x y) := by
  unfold upS upL
  have a1 := hl.up (sz x)
  have a2 := a1.1.up (sz y)
  have b1 := hm.up x
  have b2 := b1.1.up y
  have b3 := b2.1.up (Op.negFloat .f32 x)
  have b4 := b3.1.up (Op.negFloat .f32 y)
  refine ⟨a2.1, b4.1, ?_⟩
  have m0 : 0 ≤ key m := by
    rcases hm.2 with h2 | h2
    · rw [h2, zero_key]; omega
    · omega
  rw [b4.2, b3.2, b2.2, b1.2, a2.2, a1.2, isN_neg, isN_neg, key_neg, key_neg, sz_nan, sz_nan, h]
  cases hx : isN .f32 x <;> cases hy : isN .f32 y <;> simp [sz_key, hx, hy] <;> omega

theorem lvl_eq {l m : Nat} (hl : Lvl l) (hm : Lvl m) (h : key l = key m) : FloatKind.f32.format.order l m = some .eq := by
  rw [order_key l m hl.1 hm.1, h, Int.compare_eq_eq.mpr rfl]

theorem size_calls (w : World) (x : Nat) : Calls Try.prog 158 #[.float .f32 x] w (fun e w' => e = .returned (.float .f32 (sz x)) ∧ w = w') := by
  cases hx : ltF x 0
  · have e : sz x = x := by unfold sz; rw [hx]; rfl
    have hx' : (FloatKind.f32.format.order x 0 == some .lt) = false := hx
    rw [e]
    clear hx e
    go_enter Try.func158, Try.ntmps158
    go_wp2
    go_ret
    exact ⟨rfl, rfl⟩
  · have e : sz x = Op.negFloat .f32 x := by unfold sz; rw [hx]; rfl
    have hx' : (FloatKind.f32.format.order x 0 == some .lt) = true := hx
    rw [e]
    clear hx e
    go_enter Try.func158, Try.ntmps158
    go_wp2
    go_ret
    exact ⟨rfl, rfl⟩

set_option maxRecDepth 100000 in
set_option maxHeartbeats 2000000 in
theorem IsModule_meter_above (w : World) (lv : Nat) (h : Lvl lv) (h0 : lv ≠ 0) : Calls Try.prog 121 #[.agg #[.int .i64 (7), .complex .f32 0 0, .complex .f32 0 0, .float .f32 lv, .slice none 0 0, .int .i64 (0), .int .i64 (0), .slice none 0 0, .slice none 0 0, .int .i64 (0), .int .i64 (0)]] w (RT w) := by
  have hk : 0 < key lv := by rcases h.2 with h2 | h2; exact absurd h2 h0; exact h2
  have o1 : (FloatKind.f32.format.order lv 0 == some .gt) = true := by
    have e := gtF_key lv 0
    rw [h.1, zero_nan, zero_key] at e
    simp [hk] at e
    exact e
  have z1 : (((lv : Nat) : Int) == 0) = false := by simp; omega
  clear h hk h0
  go_enter Try.func121, Try.ntmps121
  go_wp2_with fail
  go_region_with (first
    | (go_at_call 153; refine (isNought_calls _ lv).mono ?_; rintro e w1 ⟨rfl, rfl⟩))
  all_goals
    go_wp2_with (go_at_call 154; refine (isBare_zero _ 7).mono ?_; rintro e w2 ⟨rfl, g2⟩)
    go_ret
    refine ⟨rfl, Chg.trans ?_ g2 fun _ _ h => h⟩
    repeat (first | (with_reducible exact Chg.refl _ _) | (with_reducible refine Chg.alloc ?_ _) | (with_reducible refine Chg.drew ?_) | (with_reducible refine Chg.setCell ?_ ?_ _; rotate_left; exact .inr (by simp)))

set_option maxRecDepth 100000 in
set_option maxHeartbeats 2000000 in
theorem IsModule_meter_zero (w : World) : Calls Try.prog 121 #[.agg #[.int .i64 (7), .complex .f32 0 0, .complex .f32 0 0, .float .f32 0, .slice none 0 0, .int .i64 (0), .int .i64 (0), .slice none 0 0, .slice none 0 0, .int .i64 (0), .int .i64 (0)]] w (RT w) := by
  go_enter Try.func121, Try.ntmps121
  go_wp2_with fail
  refine wp_region_any (by kernel_rfl) ?_
  change wpAny _ _ _ _ _ _ _ (World.drew _)
  refine wpAny_take (i := 0) (v := ?_) rfl (by kernel_rfl) (by kernel_rfl) (by kernel_rfl) (fun _ _ _ h => h) (Or.inl ⟨by kernel_rfl, ?_⟩) ?_
  rotate_left
  · (intro w; go_simp) <;> with_reducible rfl
  simp only [Act.put, List.setIfInBounds_toArray, List.set_cons_zero, List.set_cons_succ, List.getElem_toArray, List.getElem_cons_zero, List.getElem_cons_succ]
  refine wpAny_take (i := 8) (v := ?_) rfl (by kernel_rfl) (by kernel_rfl) (by kernel_rfl) (fun _ _ _ h => h) (Or.inl ⟨by kernel_rfl, ?_⟩) ?_
  rotate_left
  · (intro w; go_simp) <;> with_reducible rfl
  simp only [Act.put, List.setIfInBounds_toArray, List.set_cons_zero, List.set_cons_succ, List.getElem_toArray, List.getElem_cons_zero, List.getElem_cons_succ]
  refine wpAny_ready (rs := [1]) (by kernel_rfl) (by simp) ?_
  refine AllReady.cons rfl (fun K hK => ?_) AllReady.nil
  go_simp
  refine hK _ _ ?_; clear hK K
  refine wpAny_ready (rs := [2]) (by kernel_rfl) (by simp) ?_
  refine AllReady.cons rfl (fun K hK => ?_) AllReady.nil
  go_simp
  go_wp2_with (first | (go_at_call 153; refine (isNought_calls _ 0).mono ?_; rintro e w1 ⟨rfl, rfl⟩))
  refine wpAny_take (i := 3) (v := ?_) rfl (by kernel_rfl) (by kernel_rfl) (by kernel_rfl) (fun _ _ _ h => h) (Or.inl ⟨by kernel_rfl, ?_⟩) ?_
  rotate_left
  · (intro w; go_simp) <;> with_reducible rfl
  simp only [Act.put, List.setIfInBounds_toArray, List.set_cons_zero, List.set_cons_succ, List.getElem_toArray, List.getElem_cons_zero, List.getElem_cons_succ]
  refine wpAny_take (i := 4) (v := undef) rfl (by kernel_rfl) (by kernel_rfl) (by kernel_rfl) (fun _ _ _ h => h) (Or.inr ⟨by kernel_rfl, rfl⟩) ?_
  simp only [Act.put, List.setIfInBounds_toArray, List.set_cons_zero, List.set_cons_succ, List.getElem_toArray, List.getElem_cons_zero, List.getElem_cons_succ]
  refine wpAny_take (i := 5) (v := undef) rfl (by kernel_rfl) (by kernel_rfl) (by kernel_rfl) (fun _ _ _ h => h) (Or.inr ⟨by kernel_rfl, rfl⟩) ?_
  simp only [Act.put, List.setIfInBounds_toArray, List.set_cons_zero, List.set_cons_succ, List.getElem_toArray, List.getElem_cons_zero, List.getElem_cons_succ]
  refine wpAny_take (i := 6) (v := undef) rfl (by kernel_rfl) (by kernel_rfl) (by kernel_rfl) (fun _ _ _ h => h) (Or.inr ⟨by kernel_rfl, rfl⟩) ?_
  simp only [Act.put, List.setIfInBounds_toArray, List.set_cons_zero, List.set_cons_succ, List.getElem_toArray, List.getElem_cons_zero, List.getElem_cons_succ]
  refine wpAny_take (i := 7) (v := ?_) rfl (by kernel_rfl) (by kernel_rfl) (by kernel_rfl) (fun _ _ _ h => h) (Or.inl ⟨by kernel_rfl, ?_⟩) ?_
  rotate_left
  · (intro w; go_simp) <;> with_reducible rfl
  simp only [Act.put, List.setIfInBounds_toArray, List.set_cons_zero, List.set_cons_succ, List.getElem_toArray, List.getElem_cons_zero, List.getElem_cons_succ]
  refine wpAny_ready (rs := [9]) (by kernel_rfl) (by simp) ?_
  refine AllReady.cons rfl (fun K hK => ?_) AllReady.nil
  go_simp
  refine hK _ _ ?_; clear hK K
  refine wpAny_ready (rs := [10]) (by kernel_rfl) (by simp) ?_
  refine AllReady.cons rfl (fun K hK => ?_) AllReady.nil
  go_simp
  refine hK _ _ ?_; clear hK K
  refine wpAny_done (by kernel_rfl) ?_ _
  go_wp2_with (go_at_call 154; refine (isBare_zero _ 7).mono ?_; rintro e w2 ⟨rfl, g2⟩)
  go_ret
  refine ⟨rfl, Chg.trans ?_ g2 fun _ _ h => h⟩
  repeat (first | (with_reducible exact Chg.refl _ _) | (with_reducible refine Chg.alloc ?_ _) | (with_reducible refine Chg.drew ?_) | (with_reducible refine Chg.setCell ?_ ?_ _; rotate_left; exact .inr (by simp)))

set_option maxRecDepth 100000 in
set_option maxHeartbeats 2000000 in
theorem step_meter (w : World) (b : Nat) (lv re im : Nat) (hb : w.heap[b]? = some (.cells #[.int .i64 (7), .complex .f32 0 0, .complex .f32 0 0, .float .f32 lv, .slice none 0 0, .int .i64 (0), .int .i64 (0), .slice none 0 0, .slice none 0 0, .int .i64 (0), .int .i64 (0)] 38 (0, 0))) :
    Calls Try.prog 123 #[.pointer (some ⟨b, 0, none⟩), .complex .f32 re im] w (fun e w' => e = .returned (.complex .f32 re im) ∧ w'.heap[b]? = some (.cells #[.int .i64 (7), .complex .f32 0 0, .complex .f32 0 0, .float .f32 (upS lv re im), .slice none 0 0, .int .i64 (0), .int .i64 (0), .slice none 0 0, .slice none 0 0, .int .i64 (0), .int .i64 (0)] 38 (0, 0)) ∧ Chg (fun k => k = b) w w') := by
  have HB := hid hb
  have ltb := heap_lt hb
  have kb := cells_at hb
  clear hb
  go_enter Try.func123, Try.ntmps123
  go_wp2_with fail
  clear kb
  go_loopw [151] (fun i wr => ∃ (k l : Nat), k ≤ 2 ∧ i = .int .i64 (k : Int) ∧ Hid (l = if k = 0 then lv else if k = 1 then up lv (sz re) else upS lv re im) ∧ Hid (wr.heap[b]? = some (.cells #[.int .i64 (7), .complex .f32 0 0, .complex .f32 0 0, .float .f32 l, .slice none 0 0, .int .i64 (0), .int .i64 (0), .slice none 0 0, .slice none 0 0, .int .i64 (0), .int .i64 (0)] 38 (0, 0))) ∧ Hid (wr.heap[w.heap.size]? = some (.cells #[.float .f32 re, .float .f32 im] 32 (0, 0))) ∧ Hid (Chg (fun k => k = b) w wr)) (fun i _ => 2 - (intOf i).toNat)
  case atStart => exact ⟨0, lv, by omega, rfl, hid rfl, hid (heap_old HB.out), hid (heap_new w _), hid ((Chg.refl _ w).alloc _)⟩
  case round =>
    obtain ⟨k, l, hk, rfl, HL, HW, HS, G⟩ := hrel
    have kb := cells_at HW.out
    have fb := frees_at HW.out
    have ks := cells_at HS.out
    have nb : b ≠ w.heap.size := by omega
    rcases (by omega : k = 0 ∨ k = 1 ∨ k = 2) with rfl | rfl | rfl
    · have hl : l = lv := by rw [HL.out]; rfl
      subst hl
      clear HL
      cases hg : (FloatKind.f32.format.order (sz re) l == some .gt)
      · have e : up l (sz re) = l := by unfold up gtF; rw [hg]; rfl
        go_wp2_with fail
        go_quiet ((go_at_call 158; exact Calls.quiet_of_same ((size_calls _ _).mono fun _ _ h => ⟨h.1, h.2.symm⟩)))
        go_wp2
        go_roundw
        case rel => exact ⟨1, l, by omega, by go_num, hid e.symm, HW, HS, hid (G.out.drewN _)⟩
        case measure => simp [intOf]
      · have e : up l (sz re) = sz re := by unfold up gtF; rw [hg]; rfl
        go_wp2_with fail
        go_quiet ((go_at_call 158; exact Calls.quiet_of_same ((size_calls _ _).mono fun _ _ h => ⟨h.1, h.2.symm⟩)))
        go_wp2_with (go_at_call 158; refine (size_calls _ _).mono ?_; rintro e w' ⟨rfl, rfl⟩)
        go_roundw
        case rel => exact ⟨1, sz re, by omega, by go_num, hid e.symm, hid (heap_set HW.out), hid (((Chg.refl (fun k => k = b) wr).setCell (.inl rfl) _).heap HS.out (by omega)), hid ((G.out.drewN _).setCell (.inl rfl) _)⟩
        case measure => simp [intOf]
    · have hl : l = up lv (sz re) := by rw [HL.out]; rfl
      clear HL
      cases hg : (FloatKind.f32.format.order (sz im) l == some .gt)
      · have e : upS lv re im = l := by unfold upS; rw [← hl]; unfold up gtF; rw [hg]; rfl
        clear hl
        go_wp2_with fail
        go_quiet ((go_at_call 158; exact Calls.quiet_of_same ((size_calls _ _).mono fun _ _ h => ⟨h.1, h.2.symm⟩)))
        go_wp2
        go_roundw
        case rel => exact ⟨2, l, by omega, by go_num, hid e.symm, HW, HS, hid (G.out.drewN _)⟩
        case measure => simp [intOf]
      · have e : upS lv re im = sz im := by unfold upS; rw [← hl]; unfold up gtF; rw [hg]; rfl
        clear hl
        go_wp2_with fail
        go_quiet ((go_at_call 158; exact Calls.quiet_of_same ((size_calls _ _).mono fun _ _ h => ⟨h.1, h.2.symm⟩)))
        go_wp2_with (go_at_call 158; refine (size_calls _ _).mono ?_; rintro e w' ⟨rfl, rfl⟩)
        go_roundw
        case rel => exact ⟨2, sz im, by omega, by go_num, hid e.symm, hid (heap_set HW.out), hid (((Chg.refl (fun k => k = b) wr).setCell (.inl rfl) _).heap HS.out (by omega)), hid ((G.out.drewN _).setCell (.inl rfl) _)⟩
        case measure => simp [intOf]
    · have hl : l = upS lv re im := by rw [HL.out]; rfl
      subst hl
      clear HL
      go_wp2_with fail
      go_ret
      exact ⟨rfl, HW.out, G.out⟩
end Go.Proofs.Ytopkehknaclhlaa
