/- Exact operations on small numbers: what reading and rounding give where nothing is lost. Conditions: as each says. -/
import Derived.Test.YtopkehknaclhlaaFo
namespace Go.Proofs.Ytopkehknaclhlaa
open Go Ieee

theorem log2_of {m k : Nat} (h1 : 2 ^ k ≤ m) (h2 : m < 2 ^ (k + 1)) : m.log2 = k :=
  (Nat.log2_eq_iff (by have := Nat.pow_pos (n := k) (show 0 < 2 by decide); omega)).mpr ⟨h1, h2⟩

theorem cut_exact (neg : Bool) (m k : Nat) : Toward.even.cut neg (m * 2 ^ k) k = m := by
  unfold Toward.cut
  have hp : 0 < 2 ^ k := Nat.pow_pos (by decide)
  by_cases hm : m = 0
  · subst hm; simp
  · have hl : k ≤ (m * 2 ^ k).log2 + 2 := by
      have h1 : 2 ^ k ≤ m * 2 ^ k := Nat.le_mul_of_pos_left _ (Nat.pos_of_ne_zero hm)
      have h2 : k ≤ (m * 2 ^ k).log2 := (Nat.le_log2 (by have := Nat.mul_pos (Nat.pos_of_ne_zero hm) hp; omega)).mpr h1
      omega
    rw [Nat.min_eq_left hl, Nat.shiftLeft_eq, Nat.one_mul]
    simp [Nat.mul_div_cancel _ hp]

theorem log2_mul_two_pow {m k L : Nat} (h1 : 2 ^ L ≤ m) (h2 : m < 2 ^ (L + 1)) : (m * 2 ^ k).log2 = L + k := by
  refine log2_of ?_ ?_
  · rw [Nat.pow_add]; exact Nat.mul_le_mul_right _ h1
  · rw [show L + k + 1 = (L + 1) + k by omega, Nat.pow_add]; exact Nat.mul_lt_mul_of_pos_right h2 (Nat.pow_pos (by decide))

theorem d_consts : double.leastPlace = -1074 ∧ double.binade = 4503599627370496 ∧ double.infRung = 9218868437227405312 ∧ double.signWeight = 9223372036854775808 ∧ double.fractionBits = 52 := by decide
theorem s_consts : single.leastPlace = -149 ∧ single.binade = 8388608 ∧ single.infRung = 2139095040 ∧ single.signWeight = 2147483648 ∧ single.fractionBits = 23 := by decide

/-- A full significand with zeros behind it is written as it stands. -/
theorem d_nearest_full (s : Bool) (m k : Nat) (p : Int) (e : Nat) (h1 : 4503599627370496 ≤ m) (h2 : m < 9007199254740992) (hp : p + k = -1074 + (e : Int)) (he : e ≤ 2000) :
    double.nearest s (m * 2 ^ k) p = double.word s (e * 4503599627370496 + m) := by
  obtain ⟨c1, c2, c3, c4, c5⟩ := d_consts
  have hl : (m * 2 ^ k).log2 = 52 + k := log2_mul_two_pow (L := 52) h1 h2
  have hpos : m * 2 ^ k ≠ 0 := by have := Nat.mul_pos (show 0 < m by omega) (Nat.pow_pos (n := k) (show 0 < 2 by decide)); omega
  unfold Format.nearest
  rw [if_neg hpos]
  simp only [c1, c2, c3, c5, hl]
  have hlast : max (p + ((52 + k : Nat) : Int) - ((52 : Nat) : Int)) (-1074) = p + k := by omega
  rw [hlast]
  have e1 : (p - (p + (k : Int))).toNat = 0 := by omega
  have e2 : (p + (k : Int) - p).toNat = k := by omega
  have e3 : (p + (k : Int) - -1074).toNat = e := by omega
  rw [e1, e2, e3, Nat.shiftLeft_zero, cut_exact, Nat.min_eq_left (by omega)]

/-- A short significand is filled up. -/
theorem d_nearest_short (s : Bool) (m L : Nat) (p : Int) (e : Nat) (h1 : 2 ^ L ≤ m) (h2 : m < 2 ^ (L + 1)) (hL : L ≤ 52) (hp : p + L - 52 = -1074 + (e : Int)) (he : e ≤ 2000) :
    double.nearest s m p = double.word s (e * 4503599627370496 + m * 2 ^ (52 - L)) := by
  obtain ⟨c1, c2, c3, c4, c5⟩ := d_consts
  have hl : m.log2 = L := log2_of h1 h2
  have hpos : m ≠ 0 := by have := Nat.pow_pos (n := L) (show 0 < 2 by decide); omega
  unfold Format.nearest
  rw [if_neg hpos]
  simp only [c1, c2, c3, c5, hl]
  have hlast : max (p + (L : Int) - ((52 : Nat) : Int)) (-1074) = p + L - 52 := by omega
  rw [hlast]
  have e1 : (p - (p + (L : Int) - 52)).toNat = 52 - L := by omega
  have e2 : (p + (L : Int) - 52 - p).toNat = 0 := by omega
  have e3 : (p + (L : Int) - 52 - -1074).toNat = e := by omega
  have hc := cut_exact s (m * 2 ^ (52 - L)) 0
  rw [Nat.pow_zero, Nat.mul_one] at hc
  rw [e1, e2, e3, Nat.shiftLeft_eq, hc, Nat.min_eq_left]
  have : m * 2 ^ (52 - L) < 9007199254740992 := by
    have h3 : m * 2 ^ (52 - L) < 2 ^ (L + 1) * 2 ^ (52 - L) := Nat.mul_lt_mul_of_pos_right h2 (Nat.pow_pos (by decide))
    rw [← Nat.pow_add, show L + 1 + (52 - L) = 53 by omega] at h3
    exact h3
  omega

theorem d_read (s : Bool) (m e : Nat) (h1 : 4503599627370496 ≤ m) (h2 : m < 9007199254740992) (he : e ≤ 2000) :
    double.read (double.word s (e * 4503599627370496 + m)) = .number s m (-1074 + (e : Int)) := by
  obtain ⟨c1, c2, c3, c4, c5⟩ := d_consts
  unfold Format.read Format.word
  simp only [c1, c2, c3, c4]
  have hs : (if s = true then 9223372036854775808 + (e * 4503599627370496 + m) else e * 4503599627370496 + m) % 9223372036854775808 = e * 4503599627370496 + m := by
    split <;> omega
  have hn : ((if s = true then 9223372036854775808 + (e * 4503599627370496 + m) else e * 4503599627370496 + m) / 9223372036854775808 % 2 == 1) = s := by
    cases s
    · simp only [Bool.false_eq_true, if_false]
      rw [show (e * 4503599627370496 + m) / 9223372036854775808 % 2 = 0 by omega]; rfl
    · simp only [if_true]
      rw [show (9223372036854775808 + (e * 4503599627370496 + m)) / 9223372036854775808 % 2 = 1 by omega]; rfl
  rw [hs, hn, if_neg (by omega), if_pos (by omega)]
  congr 1
  · omega
  · omega

theorem s_read_sub (s : Bool) (n : Nat) (h : n < 8388608) : single.read (single.word s n) = .number s n (-149) := by
  obtain ⟨c1, c2, c3, c4, c5⟩ := s_consts
  unfold Format.read Format.word
  simp only [c1, c2, c3, c4]
  have hs : (if s = true then 2147483648 + n else n) % 2147483648 = n := by split <;> omega
  have hn : ((if s = true then 2147483648 + n else n) / 2147483648 % 2 == 1) = s := by
    cases s
    · simp only [Bool.false_eq_true, if_false]
      rw [show n / 2147483648 % 2 = 0 by omega]; rfl
    · simp only [if_true]
      rw [show (2147483648 + n) / 2147483648 % 2 = 1 by omega]; rfl
  rw [hs, hn, if_pos (by omega)]

/-- What is a whole number of the least units, and small, is that subnormal number. -/
theorem s_nearest_sub (s : Bool) (n k : Nat) (p : Int) (h0 : 0 < n) (h : n < 8388608) (hp : p + k = -149) : single.nearest s (n * 2 ^ k) p = single.word s n := by
  obtain ⟨c1, c2, c3, c4, c5⟩ := s_consts
  have hpos : n * 2 ^ k ≠ 0 := by have := Nat.mul_pos h0 (Nat.pow_pos (n := k) (show 0 < 2 by decide)); omega
  have hl : (n * 2 ^ k).log2 < 23 + k := by
    rw [Nat.log2_lt hpos, Nat.pow_add]
    exact Nat.mul_lt_mul_of_pos_right h (Nat.pow_pos (by decide))
  unfold Format.nearest
  rw [if_neg hpos]
  simp only [c1, c2, c3, c5]
  have hlast : max (p + ((n * 2 ^ k).log2 : Int) - ((23 : Nat) : Int)) (-149) = -149 := by omega
  rw [hlast]
  have e1 : (p - -149).toNat = 0 := by omega
  have e2 : (-149 - p).toNat = k := by omega
  rw [e1, e2, Nat.shiftLeft_zero, cut_exact, Nat.min_eq_left (by omega)]
  simp
end Go.Proofs.Ytopkehknaclhlaa
