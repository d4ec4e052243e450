/- Which numbers a float format holds exactly; that a number of single precision is one of double precision. Plain facts on IEEE words; conditions as each says. -/
import Derived.Test.YtopkehknaclhlaaFm
namespace Go.Proofs.Ytopkehknaclhlaa
open Go Ieee

theorem cut_zero (neg : Bool) (n : Nat) : Toward.even.cut neg n 0 = n := by
  simp [Toward.cut, Nat.mod_one]

theorem log2_le_of {m k : Nat} (h : m ≠ 0) (hm : m < 2 ^ (k + 1)) : m.log2 ≤ k := by
  have := (Nat.log2_lt h).2 hm
  omega

theorem lt_two_pow_log2 (m : Nat) (h : m ≠ 0) : m < 2 ^ (m.log2 + 1) := (Nat.log2_lt h).1 (by omega)

theorem dbl_least : double.leastPlace = -1074 := by decide
theorem dbl_binade : double.binade = 4503599627370496 := by decide
theorem dbl_inf : double.infRung = 9218868437227405312 := by decide
theorem dbl_sign : double.signWeight = 9223372036854775808 := by decide
theorem sgl_least : single.leastPlace = -149 := by decide
theorem sgl_binade : single.binade = 8388608 := by decide
theorem sgl_inf : single.infRung = 2139095040 := by decide
theorem sgl_sign : single.signWeight = 2147483648 := by decide

/-- A number of at most 53 digits, neither too small nor too great: a word of double precision, no infinity. -/
theorem nearest_double (neg : Bool) (mag : Nat) (place : Int) (hm : mag < 2 ^ 53) (h1 : -1074 ≤ place) (h2 : place ≤ 900) :
    ∃ rung, rung < 9218868437227405312 ∧ double.nearest neg mag place = double.word neg rung := by
  unfold Format.nearest
  by_cases h0 : mag = 0
  · exact ⟨0, by omega, by rw [if_pos h0]⟩
  · rw [if_neg h0]
    have hL := log2_le_of h0 hm
    generalize hl : mag.log2 = L at *
    have hfr : double.fractionBits = 52 := rfl
    simp only [dbl_least, dbl_binade, dbl_inf, hfr]
    have e1 : (max (place + (L : Int) - ((52 : Nat) : Int)) (-1074) - place).toNat = 0 := by omega
    rw [e1, cut_zero]
    generalize hd : (place - max (place + (L : Int) - ((52 : Nat) : Int)) (-1074)).toNat = d
    generalize hr : (max (place + (L : Int) - ((52 : Nat) : Int)) (-1074) - -1074).toNat = r
    have hd' : d + L ≤ 52 := by omega
    have hr' : r ≤ 1974 := by omega
    have hk : mag <<< d < 2 ^ 53 := by
      rw [Nat.shiftLeft_eq]
      have a : mag < 2 ^ (L + 1) := by rw [← hl]; exact lt_two_pow_log2 mag h0
      calc mag * 2 ^ d < 2 ^ (L + 1) * 2 ^ d := Nat.mul_lt_mul_of_pos_right a (Nat.two_pow_pos d)
        _ = 2 ^ (L + 1 + d) := (Nat.pow_add 2 (L + 1) d).symm
        _ ≤ 2 ^ 53 := Nat.pow_le_pow_right (by omega) (by omega)
    generalize mag <<< d = q at hk
    have hlt : r * 4503599627370496 + q < 9218868437227405312 := by omega
    rw [Nat.min_eq_left (Nat.le_of_lt hlt)]
    exact ⟨_, hlt, rfl⟩

theorem read_word {f : Format} (neg : Bool) (rung : Nat) (h : rung < f.infRung) (hs : f.infRung < f.signWeight) : (f.read (f.word neg rung)).isInfinity = false ∧ (f.read (f.word neg rung)).isNaN = false := by
  have hpos : 0 < f.signWeight := by omega
  have e : f.word neg rung % f.signWeight = rung := by
    unfold Format.word
    cases neg
    · exact Nat.mod_eq_of_lt (by show rung < f.signWeight; omega)
    · simp only [if_true, Nat.add_mod_left]; exact Nat.mod_eq_of_lt (by omega)
  unfold Format.read
  simp only [e]
  by_cases h1 : rung < f.binade
  · simp [h1, Datum.isInfinity, Datum.isNaN]
  · simp [h1, h, Datum.isInfinity, Datum.isNaN]

/-- What a word of single precision stands for. -/
theorem single_read {x : Nat} {s : Bool} {m : Nat} {e : Int} (h : single.read x = .number s m e) : m < 2 ^ 24 ∧ -149 ≤ e ∧ e ≤ 104 := by
  unfold Format.read at h
  simp only [sgl_binade, sgl_inf, sgl_sign, sgl_least] at h
  have hb : x % 2147483648 < 2147483648 := Nat.mod_lt _ (by omega)
  split at h
  · cases h; omega
  · split at h
    · cases h
      have : x % 2147483648 / 8388608 ≤ 254 := by omega
      omega
    · split at h <;> cases h

theorem inf_not_nan : isN .f64 (FloatKind.f64.encode (.infinity false)) = false ∧ isN .f64 (FloatKind.f64.encode (.infinity true)) = false := by decide +kernel

/-- From single to double precision: the same number, whatever the tape; or a NaN. -/
theorem sameF_conv (x : Nat) (w1 w2 : World) : SameF (fconv .f32 x .f64 w1) (fconv .f32 x .f64 w2) := by
  unfold fconv
  rw [if_neg (by decide), if_neg (by decide)]
  cases hd : FloatKind.f32.decode x with
  | nan s t => exact .inl ⟨isN_conv .f64 _ _, isN_conv .f64 _ _⟩
  | infinity s => exact .inr ⟨by cases s
                                 · exact inf_not_nan.1
                                 · exact inf_not_nan.2, rfl⟩
  | number s m e =>
    obtain ⟨hm, h1, h2⟩ := single_read hd
    obtain ⟨rung, hr, he⟩ := nearest_double s m e (by omega) (by omega) (by omega)
    have hw : FloatKind.f64.encode (.number s m e) = double.word s rung := he
    have hread := read_word (f := double) s rung (by rw [dbl_inf]; exact hr) (by rw [dbl_inf, dbl_sign]; omega)
    have hi : (FloatKind.f64.decode (FloatKind.f64.encode (.number s m e))).isInfinity = false := by rw [hw]; exact hread.1
    simp only [hi, Bool.false_eq_true, if_false]
    exact .inr ⟨by unfold isN; rw [hw]; exact hread.2, rfl⟩

end Go.Proofs.Ytopkehknaclhlaa
