/- The law on mixers that turn by quarters, walked: for all bytes. No condition. -/
import Derived.Test.YtopkehknaclhlaaMx
import Derived.Test.YtopkehknaclhlaaWh
namespace Go.Proofs.Ytopkehknaclhlaa
open Go Go.RowKit

/-- Turn, turn back, the step's number modulo 4, both states: what occurs. -/
abbrev Comb := (Nat × Nat) × (Nat × Nat) × Nat × (Nat × Nat) × (Nat × Nat)
def combos0 : List Comb := [
  ((0, 1065353216), (2147483648, 3212836864), 0, (1065353216, 0), (1065353216, 0)),
  ((0, 1065353216), (2147483648, 3212836864), 1, (0, 1065353216), (0, 3212836864)),
  ((0, 1065353216), (2147483648, 3212836864), 2, (3212836864, 0), (3212836864, 0)),
  ((0, 1065353216), (2147483648, 3212836864), 3, (2147483648, 3212836864), (0, 1065353216)),
  ((0, 1065353216), (2147483648, 3212836864), 0, (1065353216, 2147483648), (1065353216, 2147483648)),
  ((0, 1065353216), (2147483648, 3212836864), 1, (0, 1065353216), (2147483648, 3212836864))]
def combos1 : List Comb := [
  ((0, 3212836864), (2147483648, 1065353216), 0, (1065353216, 0), (1065353216, 0)),
  ((0, 3212836864), (2147483648, 1065353216), 1, (0, 3212836864), (2147483648, 1065353216)),
  ((0, 3212836864), (2147483648, 1065353216), 2, (3212836864, 2147483648), (3212836864, 2147483648)),
  ((0, 3212836864), (2147483648, 1065353216), 3, (2147483648, 1065353216), (0, 3212836864))]
def combos2 : List Comb := [
  ((3212836864, 0), (3212836864, 0), 0, (1065353216, 0), (1065353216, 0)),
  ((3212836864, 0), (3212836864, 0), 1, (3212836864, 0), (3212836864, 0)),
  ((3212836864, 0), (3212836864, 0), 2, (1065353216, 2147483648), (1065353216, 2147483648)),
  ((3212836864, 0), (3212836864, 0), 3, (3212836864, 0), (3212836864, 0)),
  ((3212836864, 0), (3212836864, 0), 0, (1065353216, 2147483648), (1065353216, 2147483648))]
def combos : List Comb := combos0 ++ combos1 ++ combos2

def stepOk (c : Comb) : Bool :=
  match mulP c.2.2.2.1.1 c.2.2.2.1.2 c.1.1 c.1.2, mulP c.2.2.2.2.1 c.2.2.2.2.2 c.2.1.1 c.2.1.2 with
  | some a, some b => combos.contains (c.1, c.2.1, (c.2.2.1 + 1) % 4, a, b)
  | _, _ => false
def eqF (x y : Nat) : Bool := FloatKind.f32.format.order x y == some .eq
def passOk (c : Comb) (x y : Int) : Bool :=
  match mulP (floatOfInt .f32 x) (floatOfInt .f32 y) c.2.2.2.1.1 c.2.2.2.1.2 with
  | some p => match mulP p.1 p.2 c.2.2.2.2.1 c.2.2.2.2.2 with
    | some q => eqF q.1 (floatOfInt .f32 x) && eqF q.2 (floatOfInt .f32 y) && (c.2.2.1 != 0 || (eqF p.1 (floatOfInt .f32 x) && eqF p.2 (floatOfInt .f32 y)))
    | none => false
  | none => false
def small7 : List Int := [-3, -2, -1, 0, 1, 2, 3]

set_option maxRecDepth 100000 in
theorem all_steps : combos.all stepOk = true := by decide +kernel
set_option maxRecDepth 100000 in
theorem all_pass0 : (combos0.all fun c => small7.all fun x => small7.all fun y => passOk c x y) = true := by decide +kernel
set_option maxRecDepth 100000 in
theorem all_pass1 : (combos1.all fun c => small7.all fun x => small7.all fun y => passOk c x y) = true := by decide +kernel
set_option maxRecDepth 100000 in
theorem all_pass2 : (combos2.all fun c => small7.all fun x => small7.all fun y => passOk c x y) = true := by decide +kernel

theorem mem_small7 {x : Int} (h1 : -3 ≤ x) (h2 : x ≤ 3) : x ∈ small7 := by
  unfold small7
  simp
  omega

theorem combo_step {t u a b : Nat × Nat} {i : Nat} (h : (t, u, i, a, b) ∈ combos) : ∃ a' b', mulP a.1 a.2 t.1 t.2 = some a' ∧ mulP b.1 b.2 u.1 u.2 = some b' ∧ (t, u, (i + 1) % 4, a', b') ∈ combos := by
  have h1 := List.all_eq_true.mp all_steps _ h
  unfold stepOk at h1
  simp only at h1
  split at h1
  · rename_i p q hp hq
    exact ⟨p, q, hp, hq, by simpa using h1⟩
  · cases h1

theorem combo_pass {t u a b : Nat × Nat} {i : Nat} (h : (t, u, i, a, b) ∈ combos) {z : Nat × Nat} (hz : Whole z) :
    ∃ p q : Nat × Nat, mulP z.1 z.2 a.1 a.2 = some p ∧ mulP p.1 p.2 b.1 b.2 = some q ∧ eqF q.1 z.1 = true ∧ eqF q.2 z.2 = true ∧ (i = 0 → eqF p.1 z.1 = true ∧ eqF p.2 z.2 = true) := by
  obtain ⟨x, y, hx1, hx2, hy1, hy2, rfl⟩ := hz
  have h1 : passOk (t, u, i, a, b) x y = true := by
    rcases List.mem_append.mp h with h | h
    · rcases List.mem_append.mp h with h | h
      · exact List.all_eq_true.mp (List.all_eq_true.mp (List.all_eq_true.mp all_pass0 _ h) _ (mem_small7 hx1 hx2)) _ (mem_small7 hy1 hy2)
      · exact List.all_eq_true.mp (List.all_eq_true.mp (List.all_eq_true.mp all_pass1 _ h) _ (mem_small7 hx1 hx2)) _ (mem_small7 hy1 hy2)
    · exact List.all_eq_true.mp (List.all_eq_true.mp (List.all_eq_true.mp all_pass2 _ h) _ (mem_small7 hx1 hx2)) _ (mem_small7 hy1 hy2)
  unfold passOk at h1
  simp only at h1
  split at h1
  · rename_i p hp
    split at h1
    · rename_i q hq
      simp at h1
      refine ⟨p, q, hp, hq, h1.1.1, h1.1.2, fun hi => ?_⟩
      rcases h1.2 with h2 | h2
      · exact absurd hi h2
      · exact h2
    · cases h1
  · cases h1

theorem turn_at (j : Nat) (h : j < 3) : ∃ t1 t2 d1 d2 u1 u2 : Nat, (#[.complex .f32 0 1065353216, .complex .f32 0 3212836864, .complex .f32 3212836864 0] : Array Value)[j]? = some (.complex .f32 t1 t2) ∧
    mulP t1 t2 t1 t2 = some (d1, d2) ∧ mulP d1 d2 t1 t2 = some (u1, u2) ∧ ((t1, t2), (u1, u2), 0, (1065353216, 0), (1065353216, 0)) ∈ combos := by
  rcases (by omega : j = 0 ∨ j = 1 ∨ j = 2) with rfl | rfl | rfl
  · exact ⟨0, 1065353216, 3212836864, 0, 2147483648, 3212836864, rfl, by decide +kernel, by decide +kernel, by decide +kernel⟩
  · exact ⟨0, 3212836864, 3212836864, 2147483648, 2147483648, 1065353216, rfl, by decide +kernel, by decide +kernel, by decide +kernel⟩
  · exact ⟨3212836864, 0, 1065353216, 2147483648, 3212836864, 0, rfl, by decide +kernel, by decide +kernel, by decide +kernel⟩
end Go.Proofs.Ytopkehknaclhlaa
