/- Plain law of kinds of frames and their counts. No condition. -/
import Derived.Test.YtopkehknaclhlaaFb
import Derived.Test.YtopkehknaclhlaaFc
namespace Go.Proofs.Ytopkehknaclhlaa
open Go Go.RowKit

/-- The first k frames are told: where their kinds were met first, and how many of each. -/
structure Cnt (fs : List Fr8) (k : Nat) (ps : List Nat) (cs : List Int) : Prop where
  len : ps.length = cs.length
  inc : ps.Pairwise (· < ·)
  lt : ∀ p ∈ ps, p < k
  first : ∀ p ∈ ps, ∀ j, j < p → eqFr (fs.getD j Z8) (fs.getD p Z8) = false
  all : ∀ j, j < k → eqFr (fs.getD j Z8) (fs.getD j Z8) = false ∨ ∃ p ∈ ps, eqFr (fs.getD p Z8) (fs.getD j Z8) = true
  sum : cs.sum = (k : Int)
  pos : ∀ c ∈ cs, 1 ≤ c ∧ c ≤ (k : Int)

theorem Cnt.nil (fs : List Fr8) : Cnt fs 0 [] [] := ⟨rfl, List.Pairwise.nil, by simp, by simp, fun j h => by omega, rfl, by simp⟩

theorem sum_set : ∀ (cs : List Int) (i : Nat) (h : i < cs.length), (cs.set i (cs[i] + 1)).sum = cs.sum + 1 := by
  intro cs
  induction cs with
  | nil => intro i h; simp at h
  | cons c cs ih =>
    intro i h
    cases i with
    | zero => simp; omega
    | succ i =>
      have e := ih i (by simpa using h)
      simp at e ⊢
      rw [e]
      omega

/-- A frame that was met. -/
theorem Cnt.old {fs : List Fr8} {k : Nat} {ps : List Nat} {cs : List Int} (h : Cnt fs k ps cs) {i : Nat} (hi : i < ps.length) (he : eqFr (fs.getD ps[i] Z8) (fs.getD k Z8) = true) :
    Cnt fs (k + 1) ps (cs.set i (cs[i]'(by rw [← h.len]; exact hi) + 1)) := by
  have hi2 : i < cs.length := by rw [← h.len]; exact hi
  refine ⟨by rw [List.length_set]; exact h.len, h.inc, fun p hp => Nat.lt_succ_of_lt (h.lt p hp), h.first, fun j hj => ?_, ?_, fun c hc => ?_⟩
  · rcases (by omega : j < k ∨ j = k) with h1 | rfl
    · exact h.all j h1
    · exact .inr ⟨ps[i], List.getElem_mem hi, he⟩
  · rw [sum_set cs i hi2, h.sum]; omega
  · rcases List.mem_or_eq_of_mem_set hc with h1 | rfl
    · have := h.pos c h1; omega
    · have := h.pos cs[i] (List.getElem_mem hi2); omega

/-- A new kind. -/
theorem Cnt.new {fs : List Fr8} {k : Nat} {ps : List Nat} {cs : List Int} (h : Cnt fs k ps cs) (hn : ∀ p ∈ ps, eqFr (fs.getD p Z8) (fs.getD k Z8) = false) : Cnt fs (k + 1) (ps ++ [k]) (cs ++ [1]) := by
  refine ⟨by simp [h.len], ?_, fun p hp => ?_, fun p hp j hj => ?_, fun j hj => ?_, ?_, fun c hc => ?_⟩
  · rw [List.pairwise_append]
    exact ⟨h.inc, List.pairwise_singleton _ _, fun p hp q hq => by obtain rfl : q = k := by simpa using hq
                                                                   exact h.lt p hp⟩
  · rcases List.mem_append.mp hp with h1 | h1
    · exact Nat.lt_succ_of_lt (h.lt p h1)
    · obtain rfl : p = k := by simpa using h1
      omega
  · rcases List.mem_append.mp hp with h1 | h1
    · exact h.first p h1 j hj
    · obtain rfl : p = k := by simpa using h1
      cases he : eqFr (fs.getD j Z8) (fs.getD p Z8)
      · rfl
      · exfalso
        rcases h.all j hj with h2 | ⟨q, hq, h2⟩
        · exact absurd (eqFr_trans he (eqFr_symm he)) (by rw [h2]; simp)
        · exact absurd (eqFr_trans h2 he) (by rw [hn q hq]; simp)
  · rcases (by omega : j < k ∨ j = k) with h1 | rfl
    · rcases h.all j h1 with h2 | ⟨q, hq, h2⟩
      · exact .inl h2
      · exact .inr ⟨q, List.mem_append_left _ hq, h2⟩
    · cases he : eqFr (fs.getD j Z8) (fs.getD j Z8)
      · exact .inl rfl
      · exact .inr ⟨j, by simp, he⟩
  · rw [List.sum_append, h.sum]; simp
  · rcases List.mem_append.mp hc with h1 | h1
    · have := h.pos c h1; omega
    · obtain rfl : c = 1 := by simpa using h1
      omega

/-- The kinds. -/
def kindsOf (fs : List Fr8) (ps : List Nat) : List Fr8 := ps.map fun p => fs.getD p Z8

theorem kinds_get (fs : List Fr8) (ps : List Nat) {i : Nat} (h : i < ps.length) : (kindsOf fs ps)[i]? = some (fs.getD ps[i] Z8) := by
  unfold kindsOf
  simp [h]

/-- Where a kind is found first: in the frames where it was met first, or nowhere. -/
theorem Cnt.find {fs : List Fr8} {ps : List Nat} {cs : List Int} (h : Cnt fs fs.length ps cs) {i : Nat} (hi : i < ps.length) {r : Int} (hr : IdxF fs (fs.getD ps[i] Z8) r) :
    (eqFr (fs.getD ps[i] Z8) (fs.getD ps[i] Z8) = true ∧ r = (ps[i] : Int)) ∨ (eqFr (fs.getD ps[i] Z8) (fs.getD ps[i] Z8) = false ∧ r = -1) := by
  have hp := h.lt ps[i] (List.getElem_mem hi)
  have hd : ∀ j (hj : j < fs.length), fs.getD j Z8 = fs[j] := fun j hj => by simp [hj]
  cases he : eqFr (fs.getD ps[i] Z8) (fs.getD ps[i] Z8)
  · refine .inr ⟨rfl, ?_⟩
    rcases hr with ⟨h1, _⟩ | ⟨j, hj, h1, h2, _⟩
    · exact h1
    · rw [eqFr_trans (eqFr_symm h2) h2] at he; cases he
  · refine .inl ⟨rfl, ?_⟩
    rcases hr with ⟨_, h1⟩ | ⟨j, hj, h1, h2, h3⟩
    · have := h1 _ (List.getElem_mem hp)
      rw [← hd _ hp, he] at this
      cases this
    · rw [h1]
      rcases Nat.lt_trichotomy j ps[i] with h4 | h4 | h4
      · have := h.first ps[i] (List.getElem_mem hi) j h4
        rw [hd j hj] at this
        rw [this] at h2
        cases h2
      · omega
      · have := h3 ps[i] h4
        rw [← hd _ hp, he] at this
        cases this

/-- Where a kind is found among the kinds. -/
theorem Cnt.self {fs : List Fr8} {ps : List Nat} {cs : List Int} (h : Cnt fs fs.length ps cs) {i : Nat} (hi : i < ps.length) (he : eqFr (fs.getD ps[i] Z8) (fs.getD ps[i] Z8) = true) {r : Int} (hr : IdxF (kindsOf fs ps) (fs.getD ps[i] Z8) r) : r = (i : Int) := by
  have hl : (kindsOf fs ps).length = ps.length := by simp [kindsOf]
  have hg : ∀ j (hj : j < ps.length), (kindsOf fs ps)[j]'(by omega) = fs.getD ps[j] Z8 := fun j hj => by
    have := kinds_get fs ps hj
    rw [List.getElem?_eq_getElem (by omega)] at this
    exact Option.some.inj this
  have hlt : ∀ j (hj : j < i), eqFr (fs.getD (ps[j]'(by omega)) Z8) (fs.getD ps[i] Z8) = false := fun j hj =>
    h.first ps[i] (List.getElem_mem hi) _ (List.pairwise_iff_getElem.mp h.inc j i (by omega) hi hj)
  rcases hr with ⟨_, h1⟩ | ⟨j, hj, h1, h2, h3⟩
  · have := h1 _ (List.getElem_mem (show i < (kindsOf fs ps).length by omega))
    rw [hg i hi, he] at this
    cases this
  · rw [h1]
    rcases Nat.lt_trichotomy j i with h4 | h4 | h4
    · rw [hg j (by omega), hlt j h4] at h2; cases h2
    · omega
    · have := h3 i h4
      rw [hg i hi, he] at this
      cases this

theorem sum_take_le : ∀ (cs : List Int) (i : Nat), (∀ c ∈ cs, 1 ≤ c) → 0 ≤ (cs.take i).sum ∧ (cs.take i).sum ≤ cs.sum := by
  intro cs
  induction cs with
  | nil => intro i _; simp
  | cons c cs ih =>
    intro i h
    have hc := h c (by simp)
    cases i with
    | zero =>
      have e := ih cs.length (fun c hc => h c (by simp [hc]))
      rw [List.take_length] at e
      simp
      omega
    | succ i =>
      have e := ih i (fun c hc => h c (by simp [hc]))
      simp
      omega
end Go.Proofs.Ytopkehknaclhlaa
