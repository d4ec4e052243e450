/- A grid is a table; plain facts. -/
import Derived.Test.YtopkehknaclhlaaVf
namespace Go.Proofs.Ytopkehknaclhlaa
open Go Go.RowKit
theorem f7_dec : ∀ n : Nat, n < 15 → floatOfInt .f32 ((n : Int) - 7) < 4294967296 ∧ fin (floatOfInt .f32 ((n : Int) - 7)) = true := by decide +kernel
theorem f7_ne_dec : ∀ n : Nat, n < 15 → ∀ m : Nat, m < 15 → eqW (floatOfInt .f32 ((n : Int) - 7)) (floatOfInt .f32 ((m : Int) - 7)) = (n == m) := by decide +kernel
theorem f7 {x : Int} (h1 : -7 ≤ x) (h2 : x ≤ 7) : floatOfInt .f32 x < 4294967296 ∧ fin (floatOfInt .f32 x) = true := by
  have := f7_dec (x + 7).toNat (by omega)
  rwa [show (((x + 7).toNat : Nat) : Int) - 7 = x by omega] at this
theorem f7_eq {x y : Int} (h1 : -7 ≤ x) (h2 : x ≤ 7) (h3 : -7 ≤ y) (h4 : y ≤ 7) : eqW (floatOfInt .f32 x) (floatOfInt .f32 y) = (x == y) := by
  have := f7_ne_dec (x + 7).toNat (by omega) (y + 7).toNat (by omega)
  rw [show (((x + 7).toNat : Nat) : Int) - 7 = x by omega, show (((y + 7).toNat : Nat) : Int) - 7 = y by omega] at this
  rw [this]
  by_cases h : x = y
  · subst h; simp
  · have h' : (x + 7).toNat ≠ (y + 7).toNat := by omega
    rw [beq_eq_false_iff_ne.mpr h, beq_eq_false_iff_ne.mpr h']
theorem grid_lt {s a : Nat} (h8 : s ≤ 8) (h : a < s) : -7 ≤ 2 * (a : Int) - (s : Int) + 1 ∧ 2 * (a : Int) - (s : Int) + 1 ≤ 7 := by omega
theorem gridP_at {s k i : Nat} (h : i < k) : (gridP s k).getD i (0, 0) = (floatOfInt .f32 (2 * ((i / s : Nat) : Int) - (s : Int) + 1), floatOfInt .f32 (2 * ((i % s : Nat) : Int) - (s : Int) + 1)) := by
  rw [List.getD_eq_getElem?_getD]
  unfold gridP
  simp [h]
theorem grid_div {s i : Nat} (h1 : 1 ≤ s) (h : i < s * s) : i / s < s ∧ i % s < s := ⟨(Nat.div_lt_iff_lt_mul (by omega)).mpr h, Nat.mod_lt _ (by omega)⟩
theorem gridP_ok (s : Nat) (h1 : 1 ≤ s) (h8 : s ≤ 8) : TOk (gridP s (s * s)) := by
  have hle : s * s ≤ 8 * 8 := Nat.mul_le_mul h8 h8
  refine TOk.of (by rw [gridP_len]; omega) ?_ ?_
  · rw [gridP_len]
    refine ⟨fun i hi => ?_, fun i j hij hj => ?_⟩
    · obtain ⟨d1, d2⟩ := grid_div h1 hi
      obtain ⟨a1, a2⟩ := grid_lt h8 d1
      obtain ⟨b1, b2⟩ := grid_lt h8 d2
      rw [gridP_at hi]
      unfold finC
      rw [(f7 a1 a2).2, (f7 b1 b2).2]
      rfl
    · have hi : i < s * s := by omega
      obtain ⟨d1, d2⟩ := grid_div h1 hi
      obtain ⟨a1, a2⟩ := grid_lt h8 d1
      obtain ⟨b1, b2⟩ := grid_lt h8 d2
      obtain ⟨d3, d4⟩ := grid_div h1 hj
      obtain ⟨a3, a4⟩ := grid_lt h8 d3
      obtain ⟨b3, b4⟩ := grid_lt h8 d4
      rw [gridP_at hi, gridP_at hj]
      unfold eqC
      rw [f7_eq a1 a2 a3 a4, f7_eq b1 b2 b3 b4]
      have e1 := Nat.div_add_mod i s
      have e2 := Nat.div_add_mod j s
      by_cases hd : i / s = j / s
      · have hm : i % s ≠ j % s := by
          intro hm
          rw [hd, hm, e2] at e1
          omega
        simp
        intro _
        omega
      · simp
        intro h
        omega
  · intro z hz
    obtain ⟨i, hi, rfl⟩ := List.getElem_of_mem hz
    rw [gridP_len] at hi
    have hg := gridP_at (s := s) hi
    rw [List.getD_eq_getElem?_getD, List.getElem?_eq_getElem (by rw [gridP_len]; exact hi), Option.getD_some] at hg
    rw [hg]
    obtain ⟨d1, d2⟩ := grid_div h1 hi
    obtain ⟨a1, a2⟩ := grid_lt h8 d1
    obtain ⟨b1, b2⟩ := grid_lt h8 d2
    exact ⟨(f7 a1 a2).1, (f7 b1 b2).1⟩
end Go.Proofs.Ytopkehknaclhlaa
