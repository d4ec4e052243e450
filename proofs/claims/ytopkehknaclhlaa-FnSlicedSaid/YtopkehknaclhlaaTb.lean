/- Doubles that come of single precision numbers: halved, doubled, cut to integers, compared, exactly. Finite numbers less themselves. Plain facts; conditions: as each says. -/
import Derived.Test.YtopkehknaclhlaaFe
import Derived.Test.YtopkehknaclhlaaFo
namespace Go.Proofs.Ytopkehknaclhlaa
open Go Ieee

/-- Is a word finite? -/
def fin (x : Nat) : Bool := decide (x % 2147483648 < 2139095040)
theorem fin_read {x : Nat} (h : fin x = true) : ∃ m, ∃ e : Nat, single.read x = .number (x / 2147483648 % 2 == 1) m (-149 + (e : Int)) ∧ m < 16777216 ∧ e ≤ 253 ∧ (0 < x % 2147483648 → 0 < m) ∧ (x % 2147483648 = 0 → m = 0) := by
  have h1 : single.signWeight = 2147483648 := by decide
  have h2 : single.binade = 8388608 := by decide
  have h3 : single.infRung = 2139095040 := by decide
  have h4 : single.leastPlace = -149 := by decide
  have b : x % 2147483648 < 2139095040 := by simpa [fin] using h
  by_cases a : x % 2147483648 < 8388608
  · refine ⟨x % 2147483648, 0, ?_, by omega, by omega, fun h => h, fun h => h⟩
    unfold Format.read; simp only [h1, h2, h4]; rw [if_pos a]; simp
  · refine ⟨8388608 + x % 2147483648 % 8388608, x % 2147483648 / 8388608 - 1, ?_, by omega, by omega, fun _ => by omega, fun h => by omega⟩
    unfold Format.read; simp only [h1, h2, h3, h4]; rw [if_neg a, if_pos b]
theorem notfin_read {x : Nat} (h : fin x = false) : single.read x = .infinity (x / 2147483648 % 2 == 1) ∨ isN .f32 x = true := by
  rcases read_single x with ⟨_, _, _, _, h1⟩ | ⟨h1, _⟩ | h1
  · simp [fin] at h; omega
  · exact .inl h1
  · exact .inr h1
theorem fin_notN {x : Nat} (h : fin x = true) : isN .f32 x = false := by
  obtain ⟨m, e, h1, _⟩ := fin_read h
  unfold isN FloatKind.decode
  rw [show FloatKind.f32.format = single from rfl, h1]
  rfl
theorem sub_self_fin {x : Nat} (h : fin x = true) : floatBits .sub .f32 x x = some 0 := by
  obtain ⟨m, e, h1, _⟩ := fin_read h
  show single.sub x x = _
  unfold Format.sub
  rw [h1]
  generalize (x / 2147483648 % 2 == 1) = s
  have hs : signed s m (-149 + (e : Int) - min (-149 + (e : Int)) (-149 + (e : Int))).toNat + signed (!s) m (-149 + (e : Int) - min (-149 + (e : Int)) (-149 + (e : Int))).toNat = 0 := by
    unfold signed
    cases s <;> simp <;> omega
  simp only [Datum.opposite, Datum.sum]
  rw [hs]
  have hw : ∀ p : Int, double.fractionBits = 52 → single.write (.number false 0 p) = 0 := fun p _ => by
    show single.nearest false 0 p = 0
    unfold Format.nearest
    rw [if_pos rfl]
    rfl
  cases s <;> simpa using hw _ rfl
theorem sub_self_not {x : Nat} (h : fin x = false) : floatBits .sub .f32 x x = none := by
  rcases notfin_read h with h1 | h1
  · show single.sub x x = _
    unfold Format.sub
    rw [h1]
    generalize (x / 2147483648 % 2 == 1) = s
    cases s <;> rfl
  · exact floatBits_nan_left _ _ _ _ h1
/-- x - x is 0 just if x is finite. -/
theorem fin_sub (x : Nat) (w : World) : (FloatKind.f32.format.order (fbin .sub .f32 x x w) 0 == some .eq) = fin x := by
  cases h : fin x
  · have hn : isN .f32 (fbin .sub .f32 x x w) = true := by
      unfold fbin
      rw [sub_self_not h]
      exact isN_bin _ _ _ _
    rw [order_nan_left _ _ _ hn]
    rfl
  · rw [fbin_of (sub_self_fin h)]
    decide +kernel

/-- A positive double: M times 2^(E - 1074). -/
def DD (E M : Nat) : Nat := double.word false (E * 4503599627370496 + M)
def Mt (M : Nat) : Prop := 4503599627370496 ≤ M ∧ M < 9007199254740992
theorem DD_read {E M : Nat} (h : Mt M) (hE : E ≤ 2000) : double.read (DD E M) = .number false M (-1074 + (E : Int)) := d_read false M E h.1 h.2 hE
theorem two_read2 : double.read 4611686018427387904 = .number false 4503599627370496 (-51) := by decide +kernel
theorem DD_half {E M : Nat} (h : Mt M) (hE : E ≤ 1999) : floatBits .quo .f64 (DD (E + 1) M) 4611686018427387904 = some (DD E M) := by
  show double.div _ _ = _
  unfold Format.div
  rw [DD_read h (by omega), two_read2]
  have hl : M.log2 = 52 := log2_of (k := 52) h.1 h.2
  have hl2 : (4503599627370496 : Nat).log2 = 52 := by decide +kernel
  have hf : double.fractionBits = 52 := rfl
  unfold Datum.quotient
  simp only [hf, hl, hl2]
  rw [if_neg (by decide)]
  have e1 : M <<< (52 + 2 + 52 - 52) = M * 4 * 4503599627370496 := by rw [Nat.shiftLeft_eq]; omega
  rw [e1, Nat.mul_div_cancel _ (by decide), Nat.mul_mod_left]
  have e2 : 2 * (M * 4) + (0 != 0 : Bool).toNat = M * 2 ^ 3 := by simp; omega
  rw [e2]
  show some (double.nearest (false ^^ false) (M * 2 ^ 3) _) = _
  have e := d_nearest_full false M 3 (-1074 + ((E + 1 : Nat) : Int) - -51 - ((52 + 2 + 52 - 52 : Nat) : Int) - 1) E h.1 h.2 (by omega) (by omega)
  rw [show (false ^^ false) = false from rfl, e]
  rfl
theorem DD_double {E M : Nat} (h : Mt M) (hE : E ≤ 1999) : floatBits .mul .f64 (DD E M) 4611686018427387904 = some (DD (E + 1) M) := by
  show double.mul _ _ = _
  unfold Format.mul
  rw [DD_read h (by omega), two_read2]
  show some (double.nearest (false ^^ false) (M * 4503599627370496) _) = _
  have e := d_nearest_full false M 52 (-1074 + (E : Int) + -51) (E + 1) h.1 h.2 (by omega) (by omega)
  rw [show (false ^^ false) = false from rfl, show (4503599627370496 : Nat) = 2 ^ 52 from rfl, e]
  rfl
theorem big_read : double.read 4715268809856909312 = .number false 4503599627370496 (-28) := by decide +kernel
/-- At least 2^24. -/
theorem DD_big {E M : Nat} (h : Mt M) (hE : E ≤ 2000) : FloatKind.f64.format.order (DD E M) 4715268809856909312 = some (if E < 1046 then .lt else if E = 1046 ∧ M = 4503599627370496 then .eq else .gt) := by
  show (double.read _).order (double.read _) = _
  rw [DD_read h hE, big_read]
  simp only [Datum.order, signed, Bool.false_eq_true, if_false, Nat.shiftLeft_eq]
  obtain ⟨h1, h2⟩ := h
  by_cases a : E < 1046
  · rw [if_pos a]
    have e1 : (-1074 + (E : Int) - min (-1074 + (E : Int)) (-28)).toNat = 0 := by omega
    obtain ⟨k, hk⟩ : ∃ k, ((-28 : Int) - min (-1074 + (E : Int)) (-28)).toNat = k + 1 := ⟨1045 - E, by omega⟩
    rw [e1, hk, Nat.pow_zero, Nat.mul_one]
    have : 4503599627370496 * 2 ≤ 4503599627370496 * 2 ^ (k + 1) := Nat.mul_le_mul_left _ (by rw [Nat.pow_succ]; have := Nat.pow_pos (n := k) (show 0 < 2 by decide); omega)
    rw [Int.compare_eq_lt.mpr (by omega)]
  · rw [if_neg a]
    obtain ⟨k, hk⟩ : ∃ k, (-1074 + (E : Int) - min (-1074 + (E : Int)) (-28)).toNat = k := ⟨_, rfl⟩
    have e2 : ((-28 : Int) - min (-1074 + (E : Int)) (-28)).toNat = 0 := by omega
    have hkE : k = E - 1046 := by omega
    rw [hk, e2, Nat.pow_zero, Nat.mul_one]
    by_cases b : E = 1046
    · have : k = 0 := by omega
      subst this
      rw [Nat.pow_zero, Nat.mul_one]
      by_cases c : M = 4503599627370496
      · rw [if_pos ⟨b, c⟩, Int.compare_eq_eq.mpr (by omega)]
      · rw [if_neg (fun h => c h.2), Int.compare_eq_gt.mpr (by omega)]
    · rw [if_neg (fun h => b h.1)]
      have : 2 ^ 1 ≤ 2 ^ k := Nat.pow_le_pow_right (by decide) (by omega)
      have : M * 2 ^ 1 ≤ M * 2 ^ k := Nat.mul_le_mul_left _ this
      rw [Int.compare_eq_gt.mpr (by omega)]
/-- Cut to an integer. -/
theorem cut_down {M : Nat} (h : Mt M) (d : Nat) : Toward.zero.cut false M d = M / 2 ^ d := by
  have hl : M.log2 = 52 := log2_of (k := 52) h.1 h.2
  unfold Toward.cut
  simp only [hl, Bool.toNat_false, Nat.add_zero, Nat.shiftLeft_eq, Nat.one_mul]
  by_cases a : d ≤ 54
  · rw [show min d (52 + 2) = d by omega]
  · rw [show min d (52 + 2) = 54 by omega]
    have z1 : M / 2 ^ 54 = 0 := Nat.div_eq_of_lt (by have := h.2; omega)
    have z2 : M / 2 ^ d = 0 := Nat.div_eq_of_lt (Nat.lt_of_lt_of_le (show M < 2 ^ 54 by have := h.2; omega) (Nat.pow_le_pow_right (by decide) (by omega)))
    rw [z1, z2]
theorem toInt_DD {E M : Nat} (h : Mt M) (hE : E ≤ 1074) : (Datum.number false M (-1074 + (E : Int))).toInt .zero = some ((M / 2 ^ (1074 - E) : Nat) : Int) := by
  have e1 : (-1074 + (E : Int)).toNat = 0 := by omega
  have e2 : (-(-1074 + (E : Int))).toNat = 1074 - E := by omega
  have e3 : (Datum.number false M (-1074 + (E : Int))).integral .zero = .number false (M / 2 ^ (1074 - E)) 0 := by
    show Datum.number false (Toward.zero.cut false (M <<< (-1074 + (E : Int)).toNat) (-(-1074 + (E : Int))).toNat) 0 = _
    rw [e1, e2, Nat.shiftLeft_zero, cut_down h]
  unfold Datum.toInt
  rw [e3]
  show some (signed false (M / 2 ^ (1074 - E)) 0) = _
  unfold signed
  rw [Nat.shiftLeft_zero]
  rfl
theorem in64 (q : Nat) (h : q < 9007199254740992) : (if IntKind.i64.min ≤ (q : Int) ∧ (q : Int) ≤ IntKind.i64.max then some (q : Int) else none) = some (q : Int) := by
  have hmin : IntKind.i64.min = -9223372036854775808 := by decide
  have hmax : IntKind.i64.max = 9223372036854775807 := by decide
  rw [hmin, hmax, if_pos ⟨by omega, by omega⟩]
theorem toIntVal_of (x : Nat) (q : Nat) (dt : Datum) (hr : FloatKind.f64.decode x = dt) (ht : dt.toInt .zero = some (q : Int)) (hi : (if IntKind.i64.min ≤ (q : Int) ∧ (q : Int) ≤ IntKind.i64.max then some (q : Int) else none) = some (q : Int)) : floatToIntVal .f64 x .i64 = some (q : Int) := by
  unfold floatToIntVal
  simp only [hr, ht]
  exact hi
theorem DD_decode {E M : Nat} (h : Mt M) (hE : E ≤ 1074) : FloatKind.f64.decode (DD E M) = .number false M (-1074 + (E : Int)) := DD_read h (by omega)
theorem DD_quo {E M : Nat} (h : Mt M) : M / 2 ^ (1074 - E) < 9007199254740992 := Nat.lt_of_le_of_lt (Nat.div_le_self _ _) h.2
theorem DD_int {E M : Nat} (h : Mt M) (hE : E ≤ 1074) : floatToIntVal .f64 (DD E M) .i64 = some ((M / 2 ^ (1074 - E) : Nat) : Int) :=
  toIntVal_of _ _ _ (DD_decode h hE) (toInt_DD h hE) (in64 _ (DD_quo h))
/-- An integer as a double. -/
theorem ofInt_DD {k L : Nat} (h1 : 2 ^ L ≤ k) (h2 : k < 2 ^ (L + 1)) (hL : L ≤ 52) : floatOfInt .f64 (k : Int) = DD (1022 + L) (k * 2 ^ (52 - L)) := by
  have e := d_nearest_short false k L 0 (1022 + L) h1 h2 hL (by omega) (by omega)
  have hn : decide ((k : Int) < 0) = false := by simp
  show double.write (.number (decide ((k : Int) < 0)) (k : Int).natAbs 0) = _
  rw [hn]
  exact e
theorem ofInt_zero : floatOfInt .f64 0 = 0 := by decide +kernel
/-- Is a double that is cut to an integer what it was? -/
theorem DD_whole {E M : Nat} (h : Mt M) (hE : E ≤ 1074) : FloatKind.f64.format.order (DD E M) (floatOfInt .f64 ((M / 2 ^ (1074 - E) : Nat) : Int)) = some (if M % 2 ^ (1074 - E) = 0 then .eq else .gt) := by
  obtain ⟨d, hd⟩ : ∃ d, 1074 - E = d := ⟨_, rfl⟩
  rw [hd]
  have hp : 0 < 2 ^ d := Nat.pow_pos (by decide)
  have hdm := Nat.div_add_mod M (2 ^ d)
  have hmod := Nat.mod_lt M hp
  obtain ⟨h1, h2⟩ := h
  by_cases z : M / 2 ^ d = 0
  · rw [z] at hdm ⊢
    have hne : ¬ M % 2 ^ d = 0 := by rw [Nat.mul_zero] at hdm; omega
    rw [if_neg hne, show ((0 : Nat) : Int) = 0 from rfl, ofInt_zero]
    show (double.read _).order (double.read _) = _
    rw [DD_read ⟨h1, h2⟩ (by omega), show double.read 0 = .number false 0 (-1074) by decide +kernel]
    simp only [Datum.order, signed, Bool.false_eq_true, if_false, Nat.shiftLeft_eq, Nat.zero_mul]
    have : 0 < M * 2 ^ (-1074 + (E : Int) - min (-1074 + (E : Int)) (-1074)).toNat := Nat.mul_pos (by omega) (Nat.pow_pos (by decide))
    rw [Int.compare_eq_gt.mpr (by omega)]
  · have hd52 : d ≤ 52 := by
      rcases Nat.lt_or_ge 52 d with hh | hh
      · exfalso
        apply z
        exact Nat.div_eq_of_lt (Nat.lt_of_lt_of_le (show M < 2 ^ 53 from h2) (Nat.pow_le_pow_right (by decide) hh))
      · exact hh
    have hkl : 2 ^ (52 - d) ≤ M / 2 ^ d := by
      rw [Nat.le_div_iff_mul_le hp, ← Nat.pow_add, show 52 - d + d = 52 by omega]
      exact h1
    have hku : M / 2 ^ d < 2 ^ (52 - d + 1) := by
      rw [Nat.div_lt_iff_lt_mul hp, ← Nat.pow_add, show 52 - d + 1 + d = 53 by omega]
      exact h2
    rw [ofInt_DD hkl hku (by omega), show 52 - (52 - d) = d by omega, show 1022 + (52 - d) = E by omega]
    have hM2 : Mt (M / 2 ^ d * 2 ^ d) := by
      constructor
      · have := Nat.mul_le_mul_right (2 ^ d) hkl
        rw [← Nat.pow_add, show 52 - d + d = 52 by omega] at this
        exact this
      · have := Nat.div_mul_le_self M (2 ^ d)
        omega
    show (double.read _).order (double.read _) = _
    rw [DD_read ⟨h1, h2⟩ (by omega), DD_read hM2 (by omega)]
    simp only [Datum.order, signed, Bool.false_eq_true, if_false, Int.min_self, Int.sub_self, Int.toNat_zero, Nat.shiftLeft_zero]
    rw [Nat.mul_comm] at hdm
    by_cases c : M % 2 ^ d = 0
    · rw [if_pos c, Int.compare_eq_eq.mpr (by omega)]
    · rw [if_neg c, Int.compare_eq_gt.mpr (by omega)]
/-- A positive single precision number as a double. -/
theorem up_DD {x : Nat} (h : fin x = true) (h0 : 0 < x % 2147483648) (hs : x / 2147483648 % 2 = 0) : ∃ m L e : Nat, 2 ^ L ≤ m ∧ m < 2 ^ (L + 1) ∧ L ≤ 23 ∧ e ≤ 253 ∧ floatToFloatBits .f32 x .f64 = some (DD (873 + e + L) (m * 2 ^ (52 - L))) := by
  obtain ⟨m, e, h1, h2, h3, h4, _⟩ := fin_read h
  have hm := h4 h0
  have hL : m.log2 ≤ 23 := by
    have := (Nat.log2_lt (show m ≠ 0 by omega) (k := 24)).mpr (by omega)
    omega
  have l1 := Nat.log2_self_le (show m ≠ 0 by omega)
  have l2 : m < 2 ^ (m.log2 + 1) := Nat.lt_log2_self
  refine ⟨m, m.log2, e, l1, l2, hL, h3, ?_⟩
  have hs2 : (x / 2147483648 % 2 == 1) = false := by rw [hs]; rfl
  rw [hs2] at h1
  unfold floatToFloatBits
  rw [if_neg (by decide)]
  have hr : FloatKind.f32.decode x = .number false m (-149 + (e : Int)) := h1
  have he : FloatKind.f64.encode (.number false m (-149 + (e : Int))) = DD (873 + e + m.log2) (m * 2 ^ (52 - m.log2)) :=
    d_nearest_short false m m.log2 (-149 + (e : Int)) (873 + e + m.log2) l1 l2 (by omega) (by omega) (by omega)
  have hM : Mt (m * 2 ^ (52 - m.log2)) := by
    have hp : 0 < 2 ^ (52 - m.log2) := Nat.pow_pos (by decide)
    constructor
    · have := Nat.mul_le_mul_right (2 ^ (52 - m.log2)) l1
      rw [← Nat.pow_add, show m.log2 + (52 - m.log2) = 52 by omega] at this
      exact this
    · have := Nat.mul_lt_mul_of_pos_right l2 hp
      rw [← Nat.pow_add, show m.log2 + 1 + (52 - m.log2) = 53 by omega] at this
      exact this
  have hd : FloatKind.f64.decode (DD (873 + e + m.log2) (m * 2 ^ (52 - m.log2))) = .number false (m * 2 ^ (52 - m.log2)) (-1074 + ((873 + e + m.log2 : Nat) : Int)) := DD_read hM (by omega)
  rw [hr]
  simp only [he, hd]
  rfl
theorem Mt_of {m L : Nat} (l1 : 2 ^ L ≤ m) (l2 : m < 2 ^ (L + 1)) (hL : L ≤ 23) : Mt (m * 2 ^ (52 - L)) := by
  have hp : 0 < 2 ^ (52 - L) := Nat.pow_pos (by decide)
  constructor
  · have := Nat.mul_le_mul_right (2 ^ (52 - L)) l1
    rw [← Nat.pow_add, show L + (52 - L) = 52 by omega] at this
    exact this
  · have := Nat.mul_lt_mul_of_pos_right l2 hp
    rw [← Nat.pow_add, show L + 1 + (52 - L) = 53 by omega] at this
    exact this

theorem neg_bit (x : Nat) : (Op.negFloat .f32 x).testBit 31 = !x.testBit 31 := by
  show (x ^^^ 2 ^ 31).testBit 31 = _
  rw [Nat.testBit_xor, Nat.testBit_two_pow_self]
  cases x.testBit 31 <;> rfl
theorem neg_rung (x : Nat) : Op.negFloat .f32 x % 2147483648 = x % 2147483648 := by
  show (x ^^^ 2 ^ 31) % 2 ^ 31 = x % 2 ^ 31
  rw [Nat.xor_mod_two_pow]
  simp
theorem bit_sign (x : Nat) : (x / 2147483648 % 2 = 1) ↔ x.testBit 31 = true := by
  rw [Nat.testBit_eq_decide_div_mod_eq]
  simp
theorem neg_sign (x : Nat) : Op.negFloat .f32 x / 2147483648 % 2 = 1 - x / 2147483648 % 2 := by
  have h := bit_sign x
  have k := bit_sign (Op.negFloat .f32 x)
  rw [neg_bit] at k
  cases hx : x.testBit 31
  · rw [hx] at h k
    have h1 := k.mpr rfl
    have h2 : ¬ (x / 2147483648 % 2 = 1) := by rw [h]; simp
    omega
  · rw [hx] at h k
    have h1 := h.mpr rfl
    have h2 : ¬ (Op.negFloat .f32 x / 2147483648 % 2 = 1) := by rw [k]; simp
    omega
/-- The absolute value, never -0. -/
def absF (x : Nat) : Nat := if FloatKind.f32.format.order x 0 == some .lt then Op.negFloat .f32 x else if FloatKind.f32.format.order x 0 == some .eq then 0 else x
theorem zero_notN : isN .f32 0 = false := by decide +kernel
theorem order_zero {x : Nat} (h : fin x = true) : FloatKind.f32.format.order x 0 = some (if x % 2147483648 = 0 then .eq else if x / 2147483648 % 2 = 1 then .lt else .gt) := by
  rw [order_key x 0 (fin_notN h) zero_notN, show key 0 = 0 by decide]
  unfold key
  by_cases a : x % 2147483648 = 0
  · rw [if_pos a, a]
    split <;> rfl
  · rw [if_neg a]
    by_cases b : x / 2147483648 % 2 = 1
    · rw [if_pos b, if_pos b, Int.compare_eq_lt.mpr (by omega)]
    · rw [if_neg b, if_neg b, Int.compare_eq_gt.mpr (by omega)]
theorem abs_facts {x : Nat} (h : fin x = true) (h0 : 0 < x % 2147483648) : fin (absF x) = true ∧ 0 < absF x % 2147483648 ∧ absF x / 2147483648 % 2 = 0 := by
  have e := order_zero h
  rw [if_neg (by omega)] at e
  unfold absF
  rw [e]
  by_cases b : x / 2147483648 % 2 = 1
  · rw [if_pos b]
    show fin (Op.negFloat .f32 x) = true ∧ 0 < Op.negFloat .f32 x % 2147483648 ∧ Op.negFloat .f32 x / 2147483648 % 2 = 0
    have h1 := neg_rung x
    have h2 := neg_sign x
    refine ⟨?_, by omega, by omega⟩
    unfold fin at h ⊢
    rw [h1]
    exact h
  · rw [if_neg b]
    exact ⟨h, h0, by show x / 2147483648 % 2 = 0; omega⟩
theorem one_over {x : Nat} (h : fin x = true) (h0 : x % 2147483648 = 0) : ∃ r, floatBits .quo .f32 1065353216 x = some r := by
  obtain ⟨m, e, h1, _, _, _, h5⟩ := fin_read h
  obtain rfl := h5 h0
  show ∃ r, single.div 1065353216 x = some r
  unfold Format.div
  rw [h1, show single.read 1065353216 = .number false 8388608 (-23) by decide +kernel]
  exact ⟨_, rfl⟩
theorem least_from (p : Nat → Bool) (b : Nat) (hb : p b = true) : ∀ n a, b - a = n → a ≤ b → ∃ c, a ≤ c ∧ c ≤ b ∧ p c = true ∧ ∀ i, a ≤ i → i < c → p i = false
  | 0, a, hn, hab => by
    obtain rfl : a = b := by omega
    exact ⟨a, Nat.le_refl _, hab, hb, fun i h1 h2 => by omega⟩
  | n + 1, a, hn, hab => by
    cases ha : p a
    · obtain ⟨c, h1, h2, h3, h4⟩ := least_from p b hb n (a + 1) (by omega) (by omega)
      refine ⟨c, by omega, h2, h3, fun i hi1 hi2 => ?_⟩
      by_cases e : i = a
      · rw [e]; exact ha
      · exact h4 i (by omega) hi2
    · exact ⟨a, Nat.le_refl _, hab, ha, fun i h1 h2 => by omega⟩
/-- Where a double that is doubled is whole for the first time. -/
theorem whole_at {m L E : Nat} (l1 : 2 ^ L ≤ m) (l2 : m < 2 ^ (L + 1)) (hL : L ≤ 23) (hE : E ≤ 1045) :
    ∃ E2, E ≤ E2 ∧ E2 ≤ 1045 ∧ (m * 2 ^ (52 - L)) % 2 ^ (1074 - E2) = 0 ∧ (∀ i, E ≤ i → i < E2 → ¬ (m * 2 ^ (52 - L)) % 2 ^ (1074 - i) = 0) ∧ 0 < (m * 2 ^ (52 - L)) / 2 ^ (1074 - E2) ∧ (m * 2 ^ (52 - L)) / 2 ^ (1074 - E2) < 16777216 := by
  have hd : (m * 2 ^ (52 - L)) % 2 ^ (1074 - 1045) = 0 := by
    rw [show 52 - L = (1074 - 1045) + (23 - L) by omega, Nat.pow_add, ← Nat.mul_assoc, Nat.mul_right_comm]
    exact Nat.mul_mod_left _ _
  obtain ⟨E2, h1, h2, h3, h4⟩ := least_from (fun i => decide ((m * 2 ^ (52 - L)) % 2 ^ (1074 - i) = 0)) 1045 (by simpa using hd) _ E rfl hE
  have hM := Mt_of l1 l2 hL
  simp only [decide_eq_true_eq] at h3
  have hp : 0 < 2 ^ (1074 - E2) := Nat.pow_pos (by decide)
  refine ⟨E2, h1, h2, h3, fun i a b => by simpa using h4 i a b, ?_, ?_⟩
  · have := Nat.div_add_mod (m * 2 ^ (52 - L)) (2 ^ (1074 - E2))
    rw [h3] at this
    rcases Nat.eq_zero_or_pos ((m * 2 ^ (52 - L)) / 2 ^ (1074 - E2)) with z | z
    · rw [z] at this
      have := hM.1
      omega
    · exact z
  · rw [Nat.div_lt_iff_lt_mul hp]
    have h29 : 2 ^ 29 ≤ 2 ^ (1074 - E2) := Nat.pow_le_pow_right (by decide) (by omega)
    have := Nat.mul_le_mul_left 16777216 h29
    have h5 := hM.2
    omega
theorem odd_at {q : Nat} (hq : 0 < q) (h : q < 16777216) : ∃ j, j ≤ 24 ∧ (q / 2 ^ j) % 2 = 1 ∧ ∀ i, i < j → (q / 2 ^ i) % 2 = 0 := by
  have l1 := Nat.log2_self_le (show q ≠ 0 by omega)
  have l2 : q < 2 ^ (q.log2 + 1) := Nat.lt_log2_self
  have hL : q.log2 ≤ 24 := by
    have := (Nat.log2_lt (show q ≠ 0 by omega) (k := 24)).mpr (by omega)
    omega
  have e : q / 2 ^ q.log2 = 1 := by
    have hp : 0 < 2 ^ q.log2 := Nat.pow_pos (by decide)
    have a1 : 1 ≤ q / 2 ^ q.log2 := by rw [Nat.le_div_iff_mul_le hp]; omega
    have a2 : q / 2 ^ q.log2 < 2 := by
      rw [Nat.div_lt_iff_lt_mul hp]
      rw [Nat.pow_succ] at l2
      omega
    omega
  obtain ⟨j, _, h2, h3, h4⟩ := least_from (fun i => decide ((q / 2 ^ i) % 2 = 1)) q.log2 (by simp [e]) _ 0 rfl (Nat.zero_le _)
  refine ⟨j, by omega, by simpa using h3, fun i hi => ?_⟩
  have := h4 i (Nat.zero_le _) hi
  simp at this
  exact this
end Go.Proofs.Ytopkehknaclhlaa
