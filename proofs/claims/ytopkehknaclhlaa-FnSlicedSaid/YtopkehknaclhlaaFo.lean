/- Single precision numbers are ordered as the keys of their words are. No condition but that neither is a NaN. -/
import Derived.Test.YtopkehknaclhlaaFm
namespace Go.Proofs.Ytopkehknaclhlaa
open Go Ieee

/-- A word's rung with its sign. -/
def key (x : Nat) : Int := if x / 2147483648 % 2 = 1 then -((x % 2147483648 : Nat) : Int) else ((x % 2147483648 : Nat) : Int)

/-- The magnitude of a rung, in units of the least number. -/
def mag (r : Nat) : Nat := if r < 8388608 then r else (8388608 + r % 8388608) * 2 ^ (r / 8388608 - 1)

theorem mag_lt {r s : Nat} (h : r < s) : mag r < mag s := by
  unfold mag
  by_cases h1 : s < 8388608
  · rw [if_pos (by omega), if_pos h1]; exact h
  · rw [if_neg h1]
    have p1 : 8388608 + s % 8388608 ≤ (8388608 + s % 8388608) * 2 ^ (s / 8388608 - 1) := Nat.le_mul_of_pos_right _ (Nat.pow_pos (by decide))
    by_cases h2 : r < 8388608
    · rw [if_pos h2]; omega
    · rw [if_neg h2]
      have hq : r / 8388608 ≤ s / 8388608 := Nat.div_le_div_right (Nat.le_of_lt h)
      by_cases h3 : r / 8388608 = s / 8388608
      · rw [h3]
        exact Nat.mul_lt_mul_of_pos_right (by omega) (Nat.pow_pos (by decide))
      · have e : s / 8388608 - 1 = (r / 8388608 - 1 + 1) + (s / 8388608 - 1 - (r / 8388608 - 1 + 1)) := by omega
        have p2 : (8388608 + r % 8388608) * 2 ^ (r / 8388608 - 1) < 8388608 * 2 ^ (r / 8388608 - 1 + 1) := by
          rw [Nat.pow_succ, show 8388608 * (2 ^ (r / 8388608 - 1) * 2) = 16777216 * 2 ^ (r / 8388608 - 1) by omega]
          exact Nat.mul_lt_mul_of_pos_right (by omega) (Nat.pow_pos (by decide))
        have p3 : 8388608 * 2 ^ (r / 8388608 - 1 + 1) ≤ 8388608 * 2 ^ (s / 8388608 - 1) := Nat.mul_le_mul_left _ (Nat.pow_le_pow_right (by decide) (by omega))
        have p4 : 8388608 * 2 ^ (s / 8388608 - 1) ≤ (8388608 + s % 8388608) * 2 ^ (s / 8388608 - 1) := Nat.mul_le_mul_right _ (by omega)
        omega

theorem mag_zero : mag 0 = 0 := by unfold mag; rfl
theorem mag_pos {r : Nat} (h : 0 < r) : 0 < mag r := by have := mag_lt h; rw [mag_zero] at this; exact this

theorem cmp_of {a b c d : Int} (h1 : a < b → c < d) (h2 : a = b → c = d) (h3 : b < a → d < c) : compare c d = compare a b := by
  rcases Int.lt_trichotomy a b with h | h | h
  · rw [Int.compare_eq_lt.mpr h, Int.compare_eq_lt.mpr (h1 h)]
  · rw [Int.compare_eq_eq.mpr h, Int.compare_eq_eq.mpr (h2 h)]
  · rw [Int.compare_eq_gt.mpr h, Int.compare_eq_gt.mpr (h3 h)]

/-- What a word stands for, as magnitude and least place. -/
theorem read_single (x : Nat) : (∃ m, ∃ e : Nat, single.read x = .number (x / 2147483648 % 2 == 1) m (-149 + (e : Int)) ∧ m * 2 ^ e = mag (x % 2147483648) ∧ x % 2147483648 < 2139095040) ∨
    (single.read x = .infinity (x / 2147483648 % 2 == 1) ∧ x % 2147483648 = 2139095040) ∨ (isN .f32 x = true) := by
  have h1 : single.signWeight = 2147483648 := by decide
  have h2 : single.binade = 8388608 := by decide
  have h3 : single.infRung = 2139095040 := by decide
  have h4 : single.leastPlace = -149 := by decide
  by_cases a : x % 2147483648 < 8388608
  · refine .inl ⟨x % 2147483648, 0, ?_, ?_, by omega⟩
    · unfold Format.read; simp only [h1, h2, h4]; rw [if_pos a]; simp
    · unfold mag; rw [if_pos a]; simp
  · by_cases b : x % 2147483648 < 2139095040
    · refine .inl ⟨8388608 + x % 2147483648 % 8388608, x % 2147483648 / 8388608 - 1, ?_, ?_, b⟩
      · unfold Format.read; simp only [h1, h2, h3, h4]; rw [if_neg a, if_pos b]
      · unfold mag; rw [if_neg a]
    · by_cases c : x % 2147483648 = 2139095040
      · refine .inr (.inl ⟨?_, c⟩)
        unfold Format.read; simp only [h1, h2, h3]; rw [if_neg a, if_neg b, if_pos c]
      · refine .inr (.inr ?_)
        unfold isN FloatKind.decode Format.read
        simp only [FloatKind.format, h1, h2, h3]
        rw [if_neg a, if_neg b, if_neg c]
        rfl

theorem notN_rung {x : Nat} (h : isN .f32 x = false) : x % 2147483648 ≤ 2139095040 := by
  rcases read_single x with ⟨_, _, _, _, h1⟩ | ⟨_, h1⟩ | h1
  · omega
  · omega
  · rw [h] at h1; cases h1

theorem isN_of_rung {x : Nat} (h : 2139095040 < x % 2147483648) : isN .f32 x = true := by
  rcases read_single x with ⟨_, _, _, _, h1⟩ | ⟨_, h1⟩ | h1
  · omega
  · omega
  · exact h1

/-- A magnitude with its sign. -/
def sg (s : Bool) (m : Nat) : Int := if s then -(m : Int) else (m : Int)

theorem signed_mul (s : Bool) (m e : Nat) (u : Nat) (he : m * 2 ^ e = u) (b : Int) (hb : b ≤ -149 + (e : Int)) (hb0 : -149 ≤ b) :
    signed s m ((-149 + (e : Int)) - b).toNat * 2 ^ ((b + 149).toNat) = sg s u := by
  have k : ((-149 + (e : Int)) - b).toNat + (b + 149).toNat = e := by omega
  unfold signed sg
  subst he
  have e1 : (m <<< ((-149 + (e : Int)) - b).toNat) * 2 ^ ((b + 149).toNat) = m * 2 ^ e := by
    rw [Nat.shiftLeft_eq, Nat.mul_assoc, ← Nat.pow_add, k]
  split
  · rw [Int.neg_mul, ← e1]; push_cast; rfl
  · rw [← e1]; push_cast; rfl

theorem key_eq (x : Nat) : key x = sg (x / 2147483648 % 2 == 1) (x % 2147483648) := by
  unfold key sg
  by_cases h : x / 2147483648 % 2 = 1 <;> simp [h]

theorem sg_cmp (s t : Bool) (a b : Nat) : compare (sg s (mag a)) (sg t (mag b)) = compare (sg s a) (sg t b) := by
  have c1 : a < b → mag a < mag b := mag_lt
  have c2 : b < a → mag b < mag a := mag_lt
  have c3 : a = b → mag a = mag b := fun h => by rw [h]
  have z1 : a = 0 → mag a = 0 := fun h => by rw [h, mag_zero]
  have z2 : b = 0 → mag b = 0 := fun h => by rw [h, mag_zero]
  have p1 : 0 < a → 0 < mag a := mag_pos
  have p2 : 0 < b → 0 < mag b := mag_pos
  generalize mag a = u at *
  generalize mag b = v at *
  apply cmp_of <;> unfold sg <;> cases s <;> cases t <;> simp <;> omega

theorem order_key (x y : Nat) (hx : isN .f32 x = false) (hy : isN .f32 y = false) : FloatKind.f32.format.order x y = some (compare (key x) (key y)) := by
  rw [key_eq, key_eq]
  unfold Format.order FloatKind.format
  rcases read_single x with ⟨m, e, h1, h2, h3⟩ | ⟨h1, h2⟩ | h1
  · rcases read_single y with ⟨n, f, k1, k2, k3⟩ | ⟨k1, k2⟩ | k1
    · simp only [h1, k1, Datum.order]
      rw [← sg_cmp]
      congr 1
      have s1 := signed_mul (x / 2147483648 % 2 == 1) m e _ h2 (min (-149 + (e : Int)) (-149 + (f : Int))) (by omega) (by omega)
      have s2 := signed_mul (y / 2147483648 % 2 == 1) n f _ k2 (min (-149 + (e : Int)) (-149 + (f : Int))) (by omega) (by omega)
      rw [← s1, ← s2]
      have hp : (0 : Int) < 2 ^ ((min (-149 + (e : Int)) (-149 + (f : Int)) + 149).toNat) := Int.pow_pos (by decide)
      symm
      apply cmp_of
      · intro h; exact Int.mul_lt_mul_of_pos_right h hp
      · intro h; rw [h]
      · intro h; exact Int.mul_lt_mul_of_pos_right h hp
    · simp only [h1, k1, Datum.order]
      congr 1
      generalize (x / 2147483648 % 2 == 1) = s at *
      generalize (y / 2147483648 % 2 == 1) = t at *
      cases t
      · symm; apply Int.compare_eq_lt.mpr; cases s <;> simp [sg] <;> omega
      · symm; apply Int.compare_eq_gt.mpr; cases s <;> simp [sg] <;> omega
    · rw [hy] at k1; cases k1
  · rcases read_single y with ⟨n, f, k1, k2, k3⟩ | ⟨k1, k2⟩ | k1
    · simp only [h1, k1, Datum.order]
      congr 1
      generalize (x / 2147483648 % 2 == 1) = s at *
      generalize (y / 2147483648 % 2 == 1) = t at *
      cases s
      · symm; apply Int.compare_eq_gt.mpr; cases t <;> simp [sg] <;> omega
      · symm; apply Int.compare_eq_lt.mpr; cases t <;> simp [sg] <;> omega
    · simp only [h1, k1, Datum.order]
      congr 1
      rw [h2, k2]
      generalize (x / 2147483648 % 2 == 1) = s at *
      generalize (y / 2147483648 % 2 == 1) = t at *
      cases s <;> cases t <;> decide
    · rw [hy] at k1; cases k1
  · rw [hx] at h1; cases h1
end Go.Proofs.Ytopkehknaclhlaa
