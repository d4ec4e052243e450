/- Rings by their items: the plain law. -/
import Derived.Test.YtopkehknaclhlaaFr
import Derived.Test.YtopkehknaclhlaaIr
namespace Go.Proofs.Ytopkehknaclhlaa
open Go Go.RowKit

/-- What a ring holds, the oldest first. -/
def items (xs : List (Nat × Nat)) (p q : Nat) : List (Nat × Nat) := (List.range q).map fun i => xs.getD ((p + i) % xs.length) (0, 0)

theorem md {p i n : Nat} (hp : p < n) (hi : i ≤ n) : (p + i) % n = if p + i < n then p + i else p + i - n := by
  split
  · exact Nat.mod_eq_of_lt (by omega)
  · rw [Nat.mod_eq_sub_mod (by omega)]
    exact Nat.mod_eq_of_lt (by omega)

theorem items_len (xs : List (Nat × Nat)) (p q : Nat) : (items xs p q).length = q := by simp [items]

theorem take_law {xs : List (Nat × Nat)} {p q n : Nat} (hn : xs.length = n) (h : OkRing xs p (q + 1)) :
    OkRing (xs.set p (0, 0)) ((p + 1) % n) q ∧ items xs p (q + 1) = xs.getD p (0, 0) :: items (xs.set p (0, 0)) ((p + 1) % n) q := by
  obtain ⟨h1, h2, h3, h4, h5⟩ := h
  subst hn
  have hp1 : (p + 1) % xs.length < xs.length := Nat.mod_lt _ (by omega)
  have key : ∀ i, i < xs.length → ((p + 1) % xs.length + i) % xs.length = (p + (i + 1)) % xs.length := fun i hi => by rw [md hp1 (by omega), md h3 (by omega), md h3 (show i + 1 ≤ xs.length by omega)]; split <;> split <;> split <;> omega
  refine ⟨⟨by simpa using h1, by simpa using h2, by simpa using hp1, by simp; omega, fun i hi hl => ?_⟩, ?_⟩
  · simp only [List.length_set] at hl ⊢
    rw [key i hl]
    by_cases e : (p + (i + 1)) % xs.length = p
    · rw [e]; simp [h3]
    · rw [List.getElem?_set_ne (fun he => e he.symm)]
      rcases Nat.lt_or_ge (i + 1) xs.length with h | h
      · exact h5 (i + 1) (by omega) h
      · exact absurd (show (p + (i + 1)) % xs.length = p by rw [show i + 1 = xs.length by omega, Nat.add_mod_right, Nat.mod_eq_of_lt h3]) e
  · simp only [items, List.range_succ_eq_map, List.map_cons, List.map_map, Nat.add_zero, List.length_set]
    rw [Nat.mod_eq_of_lt h3]
    congr 1
    refine List.map_congr_left fun i hi => ?_
    have hi := List.mem_range.1 hi
    simp only [Function.comp_apply, Nat.succ_eq_add_one]
    rw [key i (by omega)]
    have e : (p + (i + 1)) % xs.length ≠ p := by rw [md h3 (by omega)]; split <;> omega
    simp [List.getD, List.getElem?_set_ne (Ne.symm e)]

theorem push_law {xs : List (Nat × Nat)} {p q n : Nat} (z : Nat × Nat) (hn : xs.length = n) (h : OkRing xs p q) (hq : q < n) :
    OkRing (xs.set ((p + q) % n) z) p (q + 1) ∧ items (xs.set ((p + q) % n) z) p (q + 1) = items xs p q ++ [z] := by
  obtain ⟨h1, h2, h3, h4, h5⟩ := h
  subst hn
  have hlt : (p + q) % xs.length < xs.length := Nat.mod_lt _ (by omega)
  have key : ∀ i, i < xs.length → i ≠ q → (p + q) % xs.length ≠ (p + i) % xs.length := fun i hi hne => by rw [md h3 (by omega), md h3 (by omega)]; split <;> split <;> omega
  refine ⟨⟨by simpa using h1, by simpa using h2, by simpa using h3, by simp; omega, fun i hi hl => ?_⟩, ?_⟩
  · simp only [List.length_set] at hl ⊢
    rw [List.getElem?_set_ne (key i hl (by omega))]
    exact h5 i (by omega) hl
  · simp only [items, List.range_succ, List.map_append, List.map_cons, List.map_nil, List.length_set]
    congr 1
    · refine List.map_congr_left fun i hi => ?_
      have hi := List.mem_range.1 hi
      simp [List.getD, List.getElem?_set_ne (key i (by omega) (by omega))]
    · simp [List.getD, hlt]

/-- A ring's value that is valid and holds these items; room for n. -/
def RgOk (w : World) (base : Nat) (v : Value) (n : Nat) (is : List (Nat × Nat)) : Prop :=
  ∃ g c p xs, v = .agg #[.slice (some ⟨g, 0, none⟩) n c, .int .i64 ((p : Nat) : Int), .int .i64 ((is.length : Nat) : Int)] ∧ xs.length = n ∧ OwnC w base (.slice (some ⟨g, 0, none⟩) n c) xs ∧ OkRing xs p is.length ∧ items xs p is.length = is

theorem RgOk.chg {S : Nat → Prop} {w w' : World} {base n : Nat} {v : Value} {is : List (Nat × Nat)} (h : RgOk w base v n is) (g : Chg S w w') (hS : ∀ n, base ≤ n → n < w.heap.size → ¬ S n) : RgOk w' base v n is := by
  obtain ⟨a, c, p, xs, h1, h2, h3, h4⟩ := h
  exact ⟨a, c, p, xs, h1, h2, h3.chg g hS, h4⟩

theorem RgOk.mono {w : World} {b b' n : Nat} {v : Value} {is : List (Nat × Nat)} (h : RgOk w b v n is) (hb : b' ≤ b) : RgOk w b' v n is := by
  obtain ⟨a, c, p, xs, h1, h2, h3, h4⟩ := h
  exact ⟨a, c, p, xs, h1, h2, h3.mono hb, h4⟩

/-- A ring comes back with a sample. -/
def RTk (w : World) (n : Nat) (z : Nat × Nat) (is : List (Nat × Nat)) (e : Ending) (w' : World) : Prop :=
  ∃ v, e = .returned (.tuple #[v, .complex .f32 z.1 z.2]) ∧ RgOk w' w.heap.size v n is ∧ Chg (fun _ => False) w w'
/-- .. and true. -/
def RTkT (w : World) (n : Nat) (z : Nat × Nat) (is : List (Nat × Nat)) (e : Ending) (w' : World) : Prop :=
  ∃ v, e = .returned (.tuple #[v, .complex .f32 z.1 z.2, .bool true]) ∧ RgOk w' w.heap.size v n is ∧ Chg (fun _ => False) w w'

/-- A slice's element is written. -/
theorem OwnC.put {w : World} {b g n c : Nat} {xs : List (Nat × Nat)} (h : OwnC w b (.slice (some ⟨g, 0, none⟩) n c) xs) (k : Nat) (_hk : k < xs.length) (z : Nat × Nat) : OwnC (w.setCell ⟨g, k, none⟩ (cx z)) b (.slice (some ⟨g, 0, none⟩) n c) (xs.set k z) := by
  obtain ⟨h1, h2⟩ := h
  rcases h2 with ⟨h2, _⟩ | ⟨g', cap, cur, hv, hb, hh, hc, hm, hs, ht⟩
  · simp at h2
  · simp at hv
    obtain ⟨rfl, rfl, rfl⟩ := hv
    refine ⟨by simp, .inr ⟨g, c, cur.setIfInBounds k (cx z), by simp, hb, heap_set hh, by simpa using hc, hm, by simpa using hs, ?_⟩⟩
    rw [Array.toList_setIfInBounds, List.take_set, List.length_set, ht, List.map_set]
end Go.Proofs.Ytopkehknaclhlaa
