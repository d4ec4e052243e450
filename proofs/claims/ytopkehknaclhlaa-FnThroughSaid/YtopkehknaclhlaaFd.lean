/- Small whole numbers halved, up to the least subnormal ones: conversions, products, sums with zero, in both formats. Conditions: 0 < n < 2^17. -/
import Derived.Test.YtopkehknaclhlaaFe
namespace Go.Proofs.Ytopkehknaclhlaa
open Go Ieee

/-- The word of n halved i times, with its sign. -/
def sgf (n : Nat) : Nat := n * 2 ^ (52 - n.log2)
def dz (s : Bool) (n i : Nat) : Nat := double.word s ((1022 + n.log2 - i) * 4503599627370496 + sgf n)
def Sm (n : Nat) : Prop := 0 < n ∧ n < 131072

theorem Sm.log {n : Nat} (h : Sm n) : n.log2 ≤ 16 ∧ 2 ^ n.log2 ≤ n ∧ n < 2 ^ (n.log2 + 1) := by
  have h0 : n ≠ 0 := by have := h.1; omega
  refine ⟨?_, Nat.log2_self_le h0, Nat.lt_log2_self⟩
  have := (Nat.log2_lt h0 (k := 17)).mpr (by have := h.2; omega)
  omega

theorem Sm.sgf {n : Nat} (h : Sm n) : 4503599627370496 ≤ sgf n ∧ sgf n < 9007199254740992 := by
  obtain ⟨h1, h2, h3⟩ := h.log
  have hp : 0 < 2 ^ (52 - n.log2) := Nat.pow_pos (by decide)
  unfold Proofs.Ytopkehknaclhlaa.sgf
  constructor
  · have := Nat.mul_le_mul_right (2 ^ (52 - n.log2)) h2
    rw [← Nat.pow_add, show n.log2 + (52 - n.log2) = 52 by omega] at this
    exact this
  · have := Nat.mul_lt_mul_of_pos_right h3 hp
    rw [← Nat.pow_add, show n.log2 + 1 + (52 - n.log2) = 53 by omega] at this
    exact this

theorem dz_read (s : Bool) {n i : Nat} (h : Sm n) (hi : i ≤ 149) : double.read (dz s n i) = .number s (sgf n) (-1074 + ((1022 + n.log2 - i : Nat) : Int)) := by
  obtain ⟨h1, h2, h3⟩ := h.log
  exact d_read s (sgf n) (1022 + n.log2 - i) h.sgf.1 h.sgf.2 (by omega)

theorem floatOfInt_dz {n : Nat} (h : Sm n) : floatOfInt .f64 (n : Int) = dz false n 0 := by
  obtain ⟨h1, h2, h3⟩ := h.log
  have e := d_nearest_short false n n.log2 0 (1022 + n.log2) h2 h3 (by omega) (by omega) (by omega)
  have hn : decide ((n : Int) < 0) = false := by simp
  show double.write (.number (decide ((n : Int) < 0)) (n : Int).natAbs 0) = _
  rw [hn]
  exact e

theorem two_read : double.read 4611686018427387904 = .number false 4503599627370496 (-51) := by decide +kernel
theorem one_read : double.read 4607182418800017408 = .number false 4503599627370496 (-52) := by decide +kernel
theorem zero_read : double.read 0 = .number false 0 (-1074) := by decide +kernel
theorem nzero_read : double.read 9223372036854775808 = .number true 0 (-1074) := by decide +kernel

theorem quo_dz {n i : Nat} (h : Sm n) (hi : i < 149) : floatBits .quo .f64 (dz false n i) 4611686018427387904 = some (dz false n (i + 1)) := by
  obtain ⟨h1, h2, h3⟩ := h.log
  have hs := h.sgf
  show double.div _ _ = _
  unfold Format.div
  rw [dz_read false h (by omega), two_read]
  have hl : (sgf n).log2 = 52 := log2_of (k := 52) hs.1 hs.2
  have hl2 : (4503599627370496 : Nat).log2 = 52 := by decide +kernel
  have hf : double.fractionBits = 52 := rfl
  unfold Datum.quotient
  simp only [hf, hl, hl2]
  rw [if_neg (by decide)]
  have e1 : sgf n <<< (52 + 2 + 52 - 52) = sgf n * 4 * 4503599627370496 := by rw [Nat.shiftLeft_eq]; omega
  rw [e1, Nat.mul_div_cancel _ (by decide), Nat.mul_mod_left]
  have e2 : 2 * (sgf n * 4) + (0 != 0 : Bool).toNat = sgf n * 2 ^ 3 := by simp; omega
  rw [e2]
  show some (double.nearest (false ^^ false) (sgf n * 2 ^ 3) _) = _
  have e := d_nearest_full false (sgf n) 3 (-1074 + ((1022 + n.log2 - i : Nat) : Int) - -51 - ((52 + 2 + 52 - 52 : Nat) : Int) - 1) (1022 + n.log2 - (i + 1)) hs.1 hs.2 (by omega) (by omega)
  rw [show (false ^^ false) = false from rfl, e]
  rfl

theorem xor_top {x : Nat} (h : x < 2 ^ 63) : x ^^^ 2 ^ 63 = 2 ^ 63 + x := by
  apply Nat.eq_of_testBit_eq
  intro j
  rw [Nat.testBit_xor]
  rcases Nat.lt_trichotomy j 63 with hj | rfl | hj
  · rw [Nat.testBit_two_pow_add_gt hj, Nat.testBit_two_pow_of_ne (by omega)]
    simp
  · rw [Nat.testBit_two_pow_add_eq, Nat.testBit_two_pow_self]
    simp
  · have e1 : x.testBit j = false := Nat.testBit_lt_two_pow (Nat.lt_of_lt_of_le h (Nat.pow_le_pow_right (by decide) (by omega)))
    have e2 : (2 ^ 63 + x).testBit j = false := Nat.testBit_lt_two_pow (Nat.lt_of_lt_of_le (show 2 ^ 63 + x < 2 ^ 64 by omega) (Nat.pow_le_pow_right (by decide) (by omega)))
    rw [e1, e2, Nat.testBit_two_pow_of_ne (by omega)]
    rfl

theorem neg_dz {n i : Nat} (h : Sm n) (hi : i ≤ 149) : Op.negFloat .f64 (dz false n i) = dz true n i := by
  obtain ⟨h1, h2, h3⟩ := h.log
  have hs := h.sgf
  have hlt : (1022 + n.log2 - i) * 4503599627370496 + sgf n < 2 ^ 63 := by omega
  show (dz false n i) ^^^ 2 ^ 63 = _
  unfold dz Format.word
  simp only [Bool.false_eq_true, if_false, if_true]
  rw [show double.signWeight = 2 ^ 63 from rfl]
  generalize (1022 + n.log2 - i) * 4503599627370496 + sgf n = x at *
  exact xor_top hlt

theorem conv_down {s : Bool} {n : Nat} (h : Sm n) : floatToFloatBits .f64 (dz s n 149) .f32 = some (single.word s n) := by
  obtain ⟨h1, h2, h3⟩ := h.log
  unfold floatToFloatBits
  rw [if_neg (by decide)]
  have hr : FloatKind.f64.decode (dz s n 149) = .number s (sgf n) (-1074 + ((1022 + n.log2 - 149 : Nat) : Int)) := dz_read s h (by omega)
  have he : FloatKind.f32.encode (.number s (sgf n) (-1074 + ((1022 + n.log2 - 149 : Nat) : Int))) = single.word s n :=
    s_nearest_sub s n (52 - n.log2) _ h.1 (by have := h.2; omega) (by omega)
  have hd : FloatKind.f32.decode (single.word s n) = .number s n (-149) := s_read_sub s n (by have := h.2; omega)
  rw [hr]
  simp only [he, hd]
  rfl

theorem conv_up {s : Bool} {n : Nat} (h : Sm n) : floatToFloatBits .f32 (single.word s n) .f64 = some (dz s n 149) := by
  obtain ⟨h1, h2, h3⟩ := h.log
  unfold floatToFloatBits
  rw [if_neg (by decide)]
  have hr : FloatKind.f32.decode (single.word s n) = .number s n (-149) := s_read_sub s n (by have := h.2; omega)
  have he : FloatKind.f64.encode (.number s n (-149)) = dz s n 149 :=
    d_nearest_short s n n.log2 (-149) (1022 + n.log2 - 149) h2 h3 (by omega) (by omega) (by omega)
  have hd : FloatKind.f64.decode (dz s n 149) = .number s (sgf n) (-1074 + ((1022 + n.log2 - 149 : Nat) : Int)) := dz_read s h (by omega)
  rw [hr]
  simp only [he, hd]
  rfl

theorem mul_one_dz {s : Bool} {n : Nat} (h : Sm n) : floatBits .mul .f64 (dz s n 149) 4607182418800017408 = some (dz s n 149) := by
  obtain ⟨h1, h2, h3⟩ := h.log
  have hs := h.sgf
  show double.mul _ _ = _
  unfold Format.mul
  rw [dz_read s h (by omega), one_read]
  show some (double.nearest (s ^^ false) (sgf n * 4503599627370496) _) = _
  have e := d_nearest_full s (sgf n) 52 (-1074 + ((1022 + n.log2 - 149 : Nat) : Int) + -52) (1022 + n.log2 - 149) hs.1 hs.2 (by omega) (by omega)
  rw [Bool.xor_false, show (4503599627370496 : Nat) = 2 ^ 52 from rfl, e]
  rfl

/-- A zero with a sign. -/
def zr (s : Bool) : Nat := if s then 9223372036854775808 else 0
theorem zr_read (s : Bool) : double.read (zr s) = .number s 0 (-1074) := by cases s; exact zero_read; exact nzero_read

theorem mul_zero_dz {s : Bool} {n : Nat} (h : Sm n) : floatBits .mul .f64 (dz s n 149) 0 = some (zr s) := by
  show double.mul _ _ = _
  unfold Format.mul
  rw [dz_read s h (by omega), zero_read]
  show some (double.nearest (s ^^ false) (sgf n * 0) _) = _
  rw [Bool.xor_false, Nat.mul_zero]
  unfold Format.nearest
  rw [if_pos rfl]
  cases s <;> rfl

theorem dz_sum {s t : Bool} {n : Nat} (h : Sm n) (first : Bool) :
    (if first then Datum.sum (.number s (sgf n) (-1074 + ((1022 + n.log2 - 149 : Nat) : Int))) (.number t 0 (-1074)) else Datum.sum (.number t 0 (-1074)) (.number s (sgf n) (-1074 + ((1022 + n.log2 - 149 : Nat) : Int)))).map double.write = some (dz s n 149) := by
  obtain ⟨h1, h2, h3⟩ := h.log
  have hs := h.sgf
  have e := d_nearest_full s (sgf n) (1022 + n.log2 - 149) (-1074) (1022 + n.log2 - 149) hs.1 hs.2 (by omega) (by omega)
  have hp : 0 < 2 ^ (1022 + n.log2 - 149) := Nat.pow_pos (by decide)
  have hne : 0 < sgf n * 2 ^ (1022 + n.log2 - 149) := Nat.mul_pos (by omega) hp
  have k1 : (-1074 + ((1022 + n.log2 - 149 : Nat) : Int) - -1074).toNat = 1022 + n.log2 - 149 := by omega
  have k2 : ((-1074 : Int) - -1074).toNat = 0 := by omega
  have m1 : min (-1074 + ((1022 + n.log2 - 149 : Nat) : Int)) (-1074) = -1074 := by omega
  have m2 : min (-1074) (-1074 + ((1022 + n.log2 - 149 : Nat) : Int)) = -1074 := by omega
  cases first
  · simp only [Bool.false_eq_true, if_false, Datum.sum, m2, k1, k2, signed, Nat.shiftLeft_eq]
    generalize sgf n * 2 ^ (1022 + n.log2 - 149) = x at *
    have x0 : decide (x = 0) = false := by simp; omega
    have x1 : decide ((x : Int) < 0) = false := by simp
    have x2 : decide (0 < x) = true := by simp; omega
    cases s <;> cases t <;> (simp [x0, x1, x2]; try exact e)
  · simp only [if_true, Datum.sum, m1, k1, k2, signed, Nat.shiftLeft_eq]
    generalize sgf n * 2 ^ (1022 + n.log2 - 149) = x at *
    have x0 : decide (x = 0) = false := by simp; omega
    have x1 : decide ((x : Int) < 0) = false := by simp
    have x2 : decide (0 < x) = true := by simp; omega
    cases s <;> cases t <;> (simp [x0, x1, x2]; try exact e)

theorem one_up : floatToFloatBits .f32 1065353216 .f64 = some 4607182418800017408 := by decide +kernel
theorem sub_zero_dz {s t : Bool} {n : Nat} (h : Sm n) : floatBits .sub .f64 (dz s n 149) (zr t) = some (dz s n 149) := by
  show double.sub _ _ = _
  unfold Format.sub
  rw [dz_read s h (by omega), zr_read]
  exact dz_sum (s := s) (t := !t) h true
theorem zero_add_dz {s t : Bool} {n : Nat} (h : Sm n) : floatBits .add .f64 (zr t) (dz s n 149) = some (dz s n 149) := by
  show double.add _ _ = _
  unfold Format.add
  rw [dz_read s h (by omega), zr_read]
  exact dz_sum (s := s) (t := t) h false

theorem word_true (n : Nat) : single.word true n = 2147483648 + n := rfl
theorem word_false (n : Nat) : single.word false n = n := rfl

theorem mul_one_sub {s : Bool} {n : Nat} (h : Sm n) : floatBits .mul .f32 (single.word s n) 1065353216 = some (single.word s n) := by
  have h1 : single.read 1065353216 = .number false 8388608 (-23) := by decide +kernel
  show single.mul _ _ = _
  unfold Format.mul
  rw [s_read_sub s n (by have := h.2; omega), h1]
  show some (single.nearest (s ^^ false) (n * 8388608) (-149 + -23)) = _
  rw [Bool.xor_false, show (8388608 : Nat) = 2 ^ 23 from rfl, s_nearest_sub s n 23 _ h.1 (by have := h.2; omega) (by omega)]

theorem isN_sub (s : Bool) {n : Nat} (h : Sm n) : isN .f32 (single.word s n) = false := by
  unfold isN FloatKind.decode
  rw [show FloatKind.f32.format = single from rfl, s_read_sub s n (by have := h.2; omega)]
  rfl
theorem order_sub (s : Bool) {n : Nat} (h : Sm n) : FloatKind.f32.format.order (single.word s n) (single.word s n) = some .eq := by
  rw [order_self, isN_sub s h]; rfl
end Go.Proofs.Ytopkehknaclhlaa
