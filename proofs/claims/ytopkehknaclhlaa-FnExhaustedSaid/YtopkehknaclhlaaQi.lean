/- Pools, plainly: what the law of exhausted pools asks. Plain facts; conditions: as each says. -/
import Derived.Test.YtopkehknaclhlaaPw
namespace Go.Proofs.Ytopkehknaclhlaa
open Go Go.RowKit

/-- How many leases are lent. -/
def live (ls : List Ls) : Nat := ls.countP fun l => !l.fr
theorem live_le (ls : List Ls) : live ls ≤ ls.length := List.countP_le_length
theorem live_set : ∀ (ls : List Ls) (i : Nat) (l x : Ls), ls[i]? = some l → l.fr = true → x.fr = false → live (ls.set i x) = live ls + 1
  | [], i, l, x, h, _, _ => by simp at h
  | y :: ls, 0, l, x, h, hl, hx => by
    simp at h
    subst h
    simp [live, List.countP_cons, hl, hx]
  | y :: ls, i + 1, l, x, h, hl, hx => by
    have e := live_set ls i l x (by simpa using h) hl hx
    simp only [live] at e
    simp only [live, List.set_cons_succ, List.countP_cons, e]
    omega
theorem live_take (ls : List Ls) (k : Nat) (l : Ls) (h : ls[k]? = some l) : live (ls.take (k + 1)) = live (ls.take k) + if l.fr then 0 else 1 := by
  obtain ⟨hk, rfl⟩ := List.getElem?_eq_some_iff.mp h
  rw [List.take_succ_eq_append_getElem hk]
  simp only [live, List.countP_append, List.countP_cons, List.countP_nil]
  cases ls[k].fr <;> simp
theorem lend_live {xs : List (Nat × Nat)} {ls : List Ls} {room : Nat} {r : List (Nat × Nat) × List Ls × Nat} (e : lendP xs ls room = some r) : live r.2.1 = live ls + 1 := by
  unfold lendP at e
  cases hi : runAt xs.length ls room with
  | none => rw [hi] at e; cases e
  | some i =>
    rw [hi] at e
    cases hp : putL ls (lendX i room) with
    | none => simp [hp] at e
    | some q =>
      simp [hp] at e
      subst e
      show live q.1 = live ls + 1
      unfold putL at hp
      split at hp
      · rename_i hlt
        obtain rfl := Option.some.inj hp
        obtain ⟨l, hl, hlf, _⟩ := ffree_lt hlt
        exact live_set ls _ l _ hl hlf rfl
      · split at hp
        · cases hp
        · obtain rfl := Option.some.inj hp
          simp [live, List.countP_append, lendX]
theorem firstAt_no (p : Nat → Bool) : ∀ n, firstAt p n = none → ∀ i, i < n → p i = false
  | 0, _, i, h => by omega
  | n + 1, hm, i, hi => by
    unfold firstAt at hm
    cases hg : firstAt p n with
    | some j => rw [hg] at hm; cases hm
    | none =>
      rw [hg] at hm
      rcases (by omega : i < n ∨ i = n) with h | rfl
      · exact firstAt_no p n hg i h
      · cases hq : p i
        · rfl
        · simp [hq] at hm
theorem best_lt (c : Nat → Bool) (b : Nat) (hb : 1 ≤ b) : ∀ n, (∀ i, i < n → runTo c (i + 1) < b) → best c n < b
  | 0, _ => hb
  | n + 1, h => by
    have h1 := best_lt c b hb n fun i hi => h i (by omega)
    have h2 := h n (by omega)
    unfold best
    omega
theorem lend_none {xs : List (Nat × Nat)} {ls : List Ls} {room : Nat} (hr : 1 ≤ room) (e : lendP xs ls room = none) : best (cv ls) xs.length < room ∨ 16 ≤ live ls := by
  unfold lendP at e
  cases hi : runAt xs.length ls room with
  | none =>
    refine .inl (best_lt _ _ hr _ fun i hi2 => ?_)
    have := firstAt_no _ _ hi i hi2
    simpa using this
  | some i =>
    rw [hi] at e
    refine .inr ?_
    cases hp : putL ls (lendX i room) with
    | some q => simp [hp] at e
    | none =>
      unfold putL at hp
      split at hp
      · cases hp
      · rename_i hlt
        split at hp
        · rename_i h16
          have hall := ffree_ge hlt
          have : live ls = ls.length := by
            unfold live
            rw [List.countP_eq_length]
            intro l hl
            obtain ⟨j, hj⟩ := List.getElem?_of_mem hl
            simp [hall j l hj]
          omega
        · cases hp
theorem cv_all {ls : List Ls} (h : ∀ (j : Nat) (l : Ls), ls[j]? = some l → l.fr = true) (i : Nat) : cv ls i = false := by
  unfold cv
  rw [List.any_eq_false]
  intro l hl
  obtain ⟨j, hj⟩ := List.getElem?_of_mem hl
  simp [cvl, h j l hj]
theorem lent_all {ls : List Ls} (h : ∀ (j : Nat) (l : Ls), ls[j]? = some l → l.fr = true) (i : Nat) : lentB ls i = false := by
  unfold lentB
  cases hl : ls[i]? with
  | none => rfl
  | some l => simp [h i l hl]
theorem runTo_all {c : Nat → Bool} (h : ∀ i, c i = false) : ∀ n, runTo c n = n
  | 0 => rfl
  | n + 1 => by
    show (if c n then 0 else runTo c n + 1) = n + 1
    rw [h n, runTo_all h n]
    rfl
theorem best_all {c : Nat → Bool} (h : ∀ i, c i = false) : ∀ n, best c n = n
  | 0 => rfl
  | n + 1 => by
    show max (best c n) (runTo c (n + 1)) = n + 1
    rw [best_all h n, runTo_all h (n + 1)]
    omega
theorem frees_all {c : Nat → Bool} (h : ∀ i, c i = false) : ∀ n, frees c n = n
  | 0 => rfl
  | n + 1 => by
    show (if c n then frees c n else frees c n + 1) = n + 1
    rw [h n, frees_all h n]
    rfl
end Go.Proofs.Ytopkehknaclhlaa
