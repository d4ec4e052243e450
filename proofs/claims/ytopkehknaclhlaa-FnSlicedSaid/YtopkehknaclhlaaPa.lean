/- Pools, plainly: leases, when they are valid, which samples they cover, runs of free samples. Plain facts; conditions: as each says. -/
import Derived.Test.YtopkehknaclhlaaFi
namespace Go.Proofs.Ytopkehknaclhlaa
open Go Go.RowKit

/-- A lease. -/
structure Ls where
  st : Nat
  ct : Nat
  rm : Nat
  fr : Bool

theorem infoL : ∃ i z, Try.prog.info? 71 = some i ∧ i.zero = some z ∧ i.size = 4 ∧ i.bytes = 32 ∧ z.cells.size = 4 := by
  have h : (Try.prog.info? 71).map (fun i => (i.zero.map (fun z => z.cells.size), i.size, i.bytes)) = some (some 4, 4, 32) := by kernel_rfl
  cases hi : Try.prog.info? 71 with
  | none => rw [hi] at h; cases h
  | some i =>
    rw [hi] at h
    simp only [Option.map_some, Option.some.injEq, Prod.mk.injEq] at h
    obtain ⟨h1, h2, h3⟩ := h
    cases hz : i.zero with
    | none => rw [hz] at h1; cases h1
    | some z =>
      rw [hz] at h1
      exact ⟨i, z, rfl, hz, h2, h3, by simpa using h1⟩

def encL : Enc Ls where
  T := 65
  E := 71
  k := 4
  bytes := 32
  cells l := [.int .i64 (l.st : Int), .int .i64 (l.ct : Int), .int .i64 (l.rm : Int), .bool l.fr]
  len _ := rfl
  one l u hu := by
    simp at hu
    rcases hu with rfl | rfl | rfl | rfl <;> rfl
  pos := by decide
  small := by decide
  under := Try.underlying65
  info := infoL

abbrev OwnL (w : World) (base : Nat) (v : Value) (ls : List Ls) : Prop := OwnR encL w base v ls

/-- A lease of a list, as cells. -/
theorem OwnL.lease {w : World} {base n : Nat} {v : Value} {ls : List Ls} (h : OwnL w base v ls) (hl : ls.length = n) {k : Nat} (hk : k < n) :
    ∃ g c cur, v = .slice (some ⟨g, 0, none⟩) n c ∧ base ≤ g ∧ g < w.heap.size ∧ n ≤ c ∧ w.heap[g]? = some (.cells cur 71 (0, 0)) ∧ ∃ l, ls[k]? = some l ∧
      w.cell? ⟨g, k * 4, none⟩ = some (.int .i64 (l.st : Int)) ∧ w.cell? ⟨g, k * 4 + 1, none⟩ = some (.int .i64 (l.ct : Int)) ∧ w.cell? ⟨g, k * 4 + 2, none⟩ = some (.int .i64 (l.rm : Int)) ∧ w.cell? ⟨g, k * 4 + 3, none⟩ = some (.bool l.fr) := by
  obtain ⟨g, c, cur, hv, hb, hg, hc, hh, hs, hcell⟩ := h.row hl (by omega)
  have e : ∀ j, j < 4 → w.cell? ⟨g, k * 4 + j, none⟩ = (encL.cells (ls[k]'(by omega)))[j]? := fun j hj => by
    rw [cell_at hh]
    exact hcell k j hk hj
  exact ⟨g, c, cur, hv, hb, hg, hc, hh, ls[k]'(by omega), by simp [hl, hk], e 0 (by omega), e 1 (by omega), e 2 (by omega), e 3 (by omega)⟩

def Ls.ok (n : Nat) (l : Ls) : Prop := (l.fr = true ∧ l.st = 0 ∧ l.ct = 0 ∧ l.rm = 0) ∨ (l.fr = false ∧ 1 ≤ l.rm ∧ l.st + l.rm ≤ n ∧ l.ct ≤ l.rm)
/-- Rooms apart. -/
def Dj (a b : Ls) : Prop := a.fr = true ∨ b.fr = true ∨ a.st + a.rm ≤ b.st ∨ b.st + b.rm ≤ a.st
theorem Dj.symm {a b : Ls} (h : Dj a b) : Dj b a := by
  rcases h with h | h | h | h
  · exact .inr (.inl h)
  · exact .inl h
  · exact .inr (.inr (.inr h))
  · exact .inr (.inr (.inl h))
structure POk (n : Nat) (ls : List Ls) : Prop where
  nle : n ≤ 256
  len : ls.length ≤ 16
  ok : ∀ l ∈ ls, l.ok n
  dj : ls.Pairwise Dj

/-- Does a lease's room hold the sample? -/
def cvl (i : Nat) (l : Ls) : Bool := !l.fr && decide (l.st ≤ i) && decide (i < l.st + l.rm)
def cov (ls : List Ls) (i : Nat) : Nat := ls.countP (cvl i)
def cv (ls : List Ls) (i : Nat) : Bool := ls.any (cvl i)

theorem cvl_apart {a b : Ls} {i : Nat} (h : Dj a b) (ha : cvl i a = true) (hb : cvl i b = true) : False := by
  unfold cvl at ha hb
  simp at ha hb
  rcases h with h | h | h | h
  · rw [ha.1.1] at h; cases h
  · rw [hb.1.1] at h; cases h
  · omega
  · omega

theorem cov_eq : ∀ {ls : List Ls} (i : Nat), ls.Pairwise Dj → cov ls i = if cv ls i then 1 else 0 := by
  intro ls
  induction ls with
  | nil => intro i _; rfl
  | cons l ls ih =>
    intro i h
    rw [List.pairwise_cons] at h
    have e := ih i h.2
    unfold cov cv at *
    rw [List.countP_cons, List.any_cons]
    cases hc : cvl i l
    · simpa using e
    · have hn : ls.any (cvl i) = false := by
        cases hx : ls.any (cvl i)
        · rfl
        · obtain ⟨b, hb, hbc⟩ := List.any_eq_true.mp hx
          exact (cvl_apart (h.1 b hb) hc hbc).elim
      rw [hn] at e
      simp at e
      simp [e]
      exact e

/-- The run of free samples that ends ahead of i. -/
def runTo (c : Nat → Bool) : Nat → Nat
  | 0 => 0
  | i + 1 => if c i then 0 else runTo c i + 1
theorem runTo_le (c : Nat → Bool) : ∀ i, runTo c i ≤ i
  | 0 => Nat.le_refl 0
  | i + 1 => by
    have := runTo_le c i
    unfold runTo
    split <;> omega
theorem runTo_free (c : Nat → Bool) : ∀ i j, i - runTo c i ≤ j → j < i → c j = false
  | 0, j, _, h => by omega
  | i + 1, j, h1, h2 => by
    unfold runTo at h1
    cases hc : c i
    · rw [hc] at h1
      rcases (by omega : j = i ∨ j < i) with rfl | h
      · exact hc
      · exact runTo_free c i j (by simp at h1; omega) h
    · rw [hc] at h1
      simp at h1
      omega
/-- The greatest run. -/
def best (c : Nat → Bool) : Nat → Nat
  | 0 => 0
  | i + 1 => max (best c i) (runTo c (i + 1))
theorem best_ge (c : Nat → Bool) : ∀ n i, i ≤ n → runTo c i ≤ best c n
  | 0, i, h => by obtain rfl : i = 0 := by omega
                  exact Nat.le_refl 0
  | n + 1, i, h => by
    rcases (by omega : i ≤ n ∨ i = n + 1) with h | rfl
    · have := best_ge c n i h
      unfold best
      omega
    · unfold best
      omega
/-- The free samples. -/
def frees (c : Nat → Bool) : Nat → Nat
  | 0 => 0
  | i + 1 => if c i then frees c i else frees c i + 1
theorem runTo_congr {c d : Nat → Bool} : ∀ i, (∀ j, j < i → c j = d j) → runTo c i = runTo d i
  | 0, _ => rfl
  | i + 1, h => by
    unfold runTo
    rw [h i (by omega), runTo_congr i fun j hj => h j (by omega)]

/-- A list of numbers. -/
def tl (n : Nat) (c : Nat → Nat) : List Int := (List.range n).map fun i => (c i : Int)
theorem tl_len (n : Nat) (c : Nat → Nat) : (tl n c).length = n := by simp [tl]
theorem tl_get (n : Nat) (c : Nat → Nat) {i : Nat} (h : i < n) : (tl n c)[i]? = some (c i : Int) := by simp [tl, h]
theorem tl_set (n : Nat) (c d : Nat → Nat) {i : Nat} (h : i < n) (hd : ∀ j, j < n → d j = if j = i then c i + 1 else c j) : (tl n c).set i ((c i : Int) + 1) = tl n d := by
  apply List.ext_getElem?
  intro j
  by_cases hj : j < n
  · rw [List.getElem?_set, tl_get n d hj, hd j hj, tl_len]
    by_cases e : i = j
    · subst e; simp [h]
    · rw [if_neg e, tl_get n c hj, if_neg (fun h => e h.symm)]
  · rw [List.getElem?_eq_none (by rw [List.length_set, tl_len]; omega), List.getElem?_eq_none (by rw [tl_len]; omega)]
theorem tl_congr (n : Nat) {c d : Nat → Nat} (h : ∀ j, j < n → c j = d j) : tl n c = tl n d := by
  unfold tl
  apply List.map_congr_left
  intro j hj
  rw [h j (List.mem_range.mp hj)]
end Go.Proofs.Ytopkehknaclhlaa
