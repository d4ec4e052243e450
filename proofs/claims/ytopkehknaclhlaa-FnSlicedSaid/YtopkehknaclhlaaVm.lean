/- The nearest point of a grid to one of its own points is that point; plain. -/
import Derived.Test.YtopkehknaclhlaaVl
namespace Go.Proofs.Ytopkehknaclhlaa
open Go Go.RowKit
/-- The word of a whole number. -/
def fi (x : Int) : Nat := floatOfInt .f32 x
theorem fi_sub_dec : ∀ n : Nat, n < 15 → ∀ m : Nat, m < 15 → floatBits .sub .f32 (fi ((n : Int) - 7)) (fi ((m : Int) - 7)) = some (fi ((n : Int) - (m : Int))) := by decide +kernel
theorem fi_mul_dec : ∀ n : Nat, n < 29 → floatBits .mul .f32 (fi ((n : Int) - 14)) (fi ((n : Int) - 14)) = some (fi (((n : Int) - 14) * ((n : Int) - 14))) := by decide +kernel
theorem fi_add_dec : ∀ n : Nat, n < 15 → ∀ m : Nat, m < 15 → floatBits .add .f32 (fi ((n : Int) * (n : Int))) (fi ((m : Int) * (m : Int))) = some (fi ((n : Int) * (n : Int) + (m : Int) * (m : Int))) := by decide +kernel
theorem fi_lt_dec : ∀ n : Nat, n < 393 → ltD (fi 0) (fi (n : Int)) = decide (0 < n) ∧ ltD (fi (n : Int)) (fi 0) = false := by decide +kernel
theorem fi_sub {a b : Int} (h1 : -7 ≤ a) (h2 : a ≤ 7) (h3 : -7 ≤ b) (h4 : b ≤ 7) : floatBits .sub .f32 (fi a) (fi b) = some (fi (a - b)) := by
  have := fi_sub_dec (a + 7).toNat (by omega) (b + 7).toNat (by omega)
  rwa [show (((a + 7).toNat : Nat) : Int) - 7 = a by omega, show (((b + 7).toNat : Nat) : Int) - 7 = b by omega, show (((a + 7).toNat : Nat) : Int) - (((b + 7).toNat : Nat) : Int) = a - b by omega] at this
theorem fi_mul {x : Int} (h1 : -14 ≤ x) (h2 : x ≤ 14) : floatBits .mul .f32 (fi x) (fi x) = some (fi (x * x)) := by
  have := fi_mul_dec (x + 14).toNat (by omega)
  rwa [show (((x + 14).toNat : Nat) : Int) - 14 = x by omega] at this
theorem fi_add {x y : Int} (h1 : -14 ≤ x) (h2 : x ≤ 14) (h3 : -14 ≤ y) (h4 : y ≤ 14) : floatBits .add .f32 (fi (x * x)) (fi (y * y)) = some (fi (x * x + y * y)) := by
  have := fi_add_dec x.natAbs (by omega) y.natAbs (by omega)
  rwa [Int.natAbs_mul_self' x, Int.natAbs_mul_self' y] at this
theorem dO_fi {a b c d : Int} (a1 : -7 ≤ a) (a2 : a ≤ 7) (b1 : -7 ≤ b) (b2 : b ≤ 7) (c1 : -7 ≤ c) (c2 : c ≤ 7) (d1 : -7 ≤ d) (d2 : d ≤ 7) :
    dO (fi a, fi b) (fi c, fi d) = some (fi ((a - c) * (a - c) + (b - d) * (b - d))) := by
  unfold dO
  dsimp only
  rw [fi_sub a1 a2 c1 c2, fi_sub b1 b2 d1 d2]
  dsimp only
  rw [fi_mul (by omega) (by omega), fi_mul (by omega) (by omega)]
  dsimp only
  exact fi_add (by omega) (by omega) (by omega) (by omega)
theorem nr_zero {xs : List (Nat × Nat)} {z : Nat × Nat} {i : Nat} (D : Nat → Nat) (hi : i < xs.length) (h : ∀ k, k < xs.length → dO (xs.getD k (0, 0)) z = some (fi (D k)) ∧ D k ≤ 392 ∧ (D k = 0 ↔ k = i)) : nrI xs z = (i : Int) := by
  have key : ∀ k, k ≤ xs.length → (k ≤ i → nrTo xs z k = (-1, 0) ∨ ∃ j d : Nat, nrTo xs z k = ((j : Int), fi (d : Int)) ∧ 0 < d ∧ d ≤ 392) ∧ (i < k → nrTo xs z k = ((i : Int), fi 0)) := by
    intro k
    induction k with
    | zero => exact fun _ => ⟨fun _ => .inl rfl, fun h => by omega⟩
    | succ k ih =>
      intro hk
      obtain ⟨i1, i2⟩ := ih (by omega)
      obtain ⟨h1, h2, h3⟩ := h k (by omega)
      have e : nrTo xs z (k + 1) = nrStep z (nrTo xs z k) k (xs.getD k (0, 0)) := rfl
      rw [e]
      unfold nrStep
      rw [h1]
      dsimp only
      refine ⟨fun hki => ?_, fun hik => ?_⟩
      · have hD : 0 < D k := by
          rcases Nat.eq_zero_or_pos (D k) with h0 | h0
          · have := h3.mp h0; omega
          · exact h0
        rcases i1 (by omega) with e1 | ⟨j, d, e1, d1, d2⟩
        · rw [e1]
          rw [if_pos (Or.inl (by decide))]
          exact .inr ⟨k, D k, rfl, hD, h2⟩
        · rw [e1]
          split
          · exact .inr ⟨k, D k, rfl, hD, h2⟩
          · exact .inr ⟨j, d, rfl, d1, d2⟩
      · rcases (by omega : i < k ∨ i = k) with hlt | rfl
        · rw [i2 hlt]
          rw [if_neg]
          rintro (h0 | h0)
          · exact absurd h0 (by show ¬ (i : Int) < 0; omega)
          · rw [(fi_lt_dec (D k) (by omega)).2] at h0
            exact absurd h0 (by decide)
        · have h0 : D i = 0 := h3.mpr rfl
          rw [h0]
          rcases i1 (by omega) with e1 | ⟨j, d, e1, d1, d2⟩
          · rw [e1, if_pos (Or.inl (by decide))]
            rfl
          · rw [e1, if_pos (Or.inr (by show ltD (fi ((0 : Nat) : Int)) (fi (d : Int)) = true; rw [show ((0 : Nat) : Int) = 0 from rfl, (fi_lt_dec d (by omega)).1]; simpa using d1))]
            rfl
  unfold nrI
  rw [(key xs.length (Nat.le_refl _)).2 hi]
theorem sq_le {x : Int} (h1 : -14 ≤ x) (h2 : x ≤ 14) : 0 ≤ x * x ∧ x * x ≤ 196 := by
  have h3 : x.natAbs * x.natAbs ≤ 14 * 14 := Nat.mul_le_mul (by omega) (by omega)
  have h4 := Int.natAbs_mul_self' x
  omega
theorem sq_zero {x : Int} (h : x * x = 0) : x = 0 := by
  rcases Int.mul_eq_zero.mp h with h | h <;> exact h
theorem grid_nr {s i : Nat} (h1 : 1 ≤ s) (h8 : s ≤ 8) (hi : i < s * s) : nrI (gridP s (s * s)) ((gridP s (s * s)).getD i (0, 0)) = (i : Int) := by
  refine nr_zero (fun k => ((2 * ((k / s : Nat) : Int) - 2 * ((i / s : Nat) : Int)) * (2 * ((k / s : Nat) : Int) - 2 * ((i / s : Nat) : Int)) + (2 * ((k % s : Nat) : Int) - 2 * ((i % s : Nat) : Int)) * (2 * ((k % s : Nat) : Int) - 2 * ((i % s : Nat) : Int))).toNat) (by rw [gridP_len]; exact hi) ?_
  intro k hk
  rw [gridP_len] at hk
  obtain ⟨d1, d2⟩ := grid_div h1 hi
  obtain ⟨a1, a2⟩ := grid_lt h8 d1
  obtain ⟨b1, b2⟩ := grid_lt h8 d2
  obtain ⟨d3, d4⟩ := grid_div h1 hk
  obtain ⟨a3, a4⟩ := grid_lt h8 d3
  obtain ⟨b3, b4⟩ := grid_lt h8 d4
  rw [gridP_at hi, gridP_at hk]
  have e := dO_fi a3 a4 b3 b4 a1 a2 b1 b2
  have ei := Nat.div_add_mod i s
  have ek := Nat.div_add_mod k s
  rw [show 2 * ((k / s : Nat) : Int) - (s : Int) + 1 - (2 * ((i / s : Nat) : Int) - (s : Int) + 1) = 2 * ((k / s : Nat) : Int) - 2 * ((i / s : Nat) : Int) by omega, show 2 * ((k % s : Nat) : Int) - (s : Int) + 1 - (2 * ((i % s : Nat) : Int) - (s : Int) + 1) = 2 * ((k % s : Nat) : Int) - 2 * ((i % s : Nat) : Int) by omega] at e
  obtain ⟨p, hp⟩ : ∃ p : Int, p = 2 * ((k / s : Nat) : Int) - 2 * ((i / s : Nat) : Int) := ⟨_, rfl⟩
  obtain ⟨q, hq⟩ : ∃ q : Int, q = 2 * ((k % s : Nat) : Int) - 2 * ((i % s : Nat) : Int) := ⟨_, rfl⟩
  have p1 : -14 ≤ p ∧ p ≤ 14 := by omega
  have q1 : -14 ≤ q ∧ q ≤ 14 := by omega
  rw [← hp, ← hq] at e ⊢
  have sp := sq_le p1.1 p1.2
  have sq := sq_le q1.1 q1.2
  refine ⟨by rw [Int.toNat_of_nonneg (by omega)]; exact e, by omega, fun h0 => ?_, ?_⟩
  · have hp0 : p = 0 := sq_zero (by omega)
    have hq0 : q = 0 := sq_zero (by omega)
    have hd : k / s = i / s := by omega
    have hm : k % s = i % s := by omega
    rw [hd, hm, ei] at ek
    exact ek.symm
  · rintro rfl
    have hp0 : p = 0 := by omega
    have hq0 : q = 0 := by omega
    rw [hp0, hq0]
    rfl
end Go.Proofs.Ytopkehknaclhlaa
