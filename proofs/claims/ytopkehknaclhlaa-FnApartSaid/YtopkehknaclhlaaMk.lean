/- Pools, plainly: what the law of exhausted pools asks. Plain facts; conditions: as each says. -/
import Derived.Test.YtopkehknaclhlaaPw
import Derived.Shelf.SlSortCmp.Whole1
import Derived.Deep.QuietTactic
namespace Go.Proofs.Ytopkehknaclhlaa
open Go Go.RowKit

/-- How many leases are lent. -/
def live (ls : List Ls) : Nat := ls.countP fun l => !l.fr
theorem live_le (ls : List Ls) : live ls ≤ ls.length := List.countP_le_length
theorem live_set : ∀ (ls : List Ls) (i : Nat) (l x : Ls), ls[i]? = some l → l.fr = true → x.fr = false → live (ls.set i x) = live ls + 1
  | [], i, l, x, h, _, _ => by simp at h
  | y :: ls, 0, l, x, h, hl, hx => by
    simp at h
    subst h
    simp [live, List.countP_cons, hl, hx]
  | y :: ls, i + 1, l, x, h, hl, hx => by
    have e := live_set ls i l x (by simpa using h) hl hx
    simp only [live] at e
    simp only [live, List.set_cons_succ, List.countP_cons, e]
    omega
theorem live_take (ls : List Ls) (k : Nat) (l : Ls) (h : ls[k]? = some l) : live (ls.take (k + 1)) = live (ls.take k) + if l.fr then 0 else 1 := by
  obtain ⟨hk, rfl⟩ := List.getElem?_eq_some_iff.mp h
  rw [List.take_succ_eq_append_getElem hk]
  simp only [live, List.countP_append, List.countP_cons, List.countP_nil]
  cases ls[k].fr <;> simp
theorem lend_live {xs : List (Nat × Nat)} {ls : List Ls} {room : Nat} {r : List (Nat × Nat) × List Ls × Nat} (e : lendP xs ls room = some r) : live r.2.1 = live ls + 1 := by
  unfold lendP at e
  cases hi : runAt xs.length ls room with
  | none => rw [hi] at e; cases e
  | some i =>
    rw [hi] at e
    cases hp : putL ls (lendX i room) with
    | none => simp [hp] at e
    | some q =>
      simp [hp] at e
      subst e
      show live q.1 = live ls + 1
      unfold putL at hp
      split at hp
      · rename_i hlt
        obtain rfl := Option.some.inj hp
        obtain ⟨l, hl, hlf, _⟩ := ffree_lt hlt
        exact live_set ls _ l _ hl hlf rfl
      · split at hp
        · cases hp
        · obtain rfl := Option.some.inj hp
          simp [live, List.countP_append, lendX]
theorem firstAt_no (p : Nat → Bool) : ∀ n, firstAt p n = none → ∀ i, i < n → p i = false
  | 0, _, i, h => by omega
  | n + 1, hm, i, hi => by
    unfold firstAt at hm
    cases hg : firstAt p n with
    | some j => rw [hg] at hm; cases hm
    | none =>
      rw [hg] at hm
      rcases (by omega : i < n ∨ i = n) with h | rfl
      · exact firstAt_no p n hg i h
      · cases hq : p i
        · rfl
        · simp [hq] at hm
theorem best_lt (c : Nat → Bool) (b : Nat) (hb : 1 ≤ b) : ∀ n, (∀ i, i < n → runTo c (i + 1) < b) → best c n < b
  | 0, _ => hb
  | n + 1, h => by
    have h1 := best_lt c b hb n fun i hi => h i (by omega)
    have h2 := h n (by omega)
    unfold best
    omega
theorem lend_none {xs : List (Nat × Nat)} {ls : List Ls} {room : Nat} (hr : 1 ≤ room) (e : lendP xs ls room = none) : best (cv ls) xs.length < room ∨ 16 ≤ live ls := by
  unfold lendP at e
  cases hi : runAt xs.length ls room with
  | none =>
    refine .inl (best_lt _ _ hr _ fun i hi2 => ?_)
    have := firstAt_no _ _ hi i hi2
    simpa using this
  | some i =>
    rw [hi] at e
    refine .inr ?_
    cases hp : putL ls (lendX i room) with
    | some q => simp [hp] at e
    | none =>
      unfold putL at hp
      split at hp
      · cases hp
      · rename_i hlt
        split at hp
        · rename_i h16
          have hall := ffree_ge hlt
          have : live ls = ls.length := by
            unfold live
            rw [List.countP_eq_length]
            intro l hl
            obtain ⟨j, hj⟩ := List.getElem?_of_mem hl
            simp [hall j l hj]
          omega
        · cases hp
theorem cv_all {ls : List Ls} (h : ∀ (j : Nat) (l : Ls), ls[j]? = some l → l.fr = true) (i : Nat) : cv ls i = false := by
  unfold cv
  rw [List.any_eq_false]
  intro l hl
  obtain ⟨j, hj⟩ := List.getElem?_of_mem hl
  simp [cvl, h j l hj]
theorem lent_all {ls : List Ls} (h : ∀ (j : Nat) (l : Ls), ls[j]? = some l → l.fr = true) (i : Nat) : lentB ls i = false := by
  unfold lentB
  cases hl : ls[i]? with
  | none => rfl
  | some l => simp [h i l hl]
theorem runTo_all {c : Nat → Bool} (h : ∀ i, c i = false) : ∀ n, runTo c n = n
  | 0 => rfl
  | n + 1 => by
    show (if c n then 0 else runTo c n + 1) = n + 1
    rw [h n, runTo_all h n]
    rfl
theorem best_all {c : Nat → Bool} (h : ∀ i, c i = false) : ∀ n, best c n = n
  | 0 => rfl
  | n + 1 => by
    show max (best c n) (runTo c (n + 1)) = n + 1
    rw [best_all h n, runTo_all h (n + 1)]
    omega
theorem frees_all {c : Nat → Bool} (h : ∀ i, c i = false) : ∀ n, frees c n = n
  | 0 => rfl
  | n + 1 => by
    show (if c n then frees c n else frees c n + 1) = n + 1
    rw [h n, frees_all h n]
    rfl
end Go.Proofs.Ytopkehknaclhlaa

/- Pools, plainly: what compacting makes (the rooms one behind the other, in whatever order), and what the law of pools asks of it. Plain facts; conditions: as each says. -/
namespace Go.Proofs.Ytopkehknaclhlaa
open Go Go.RowKit

/-- The leases that are lent, in their order. -/
def lentIds (ls : List Ls) : List Nat := (List.range ls.length).filter (lentB ls)
def sumR (ls : List Ls) : Nat := (ls.map Ls.rm).sum

/-- One room is moved: the samples are laid from at on, and the lease starts there. -/
def cpStep (xs : List (Nat × Nat)) (ls : List Ls) (s : List (Nat × Nat) × List Ls × Nat) (id : Nat) : List (Nat × Nat) × List Ls × Nat :=
  match ls[id]? with
  | none => s
  | some l => (laid s.1 s.2.2 ((xs.drop l.st).take l.rm), s.2.1.set id ⟨s.2.2, l.ct, l.rm, l.fr⟩, s.2.2 + l.rm)
def cpAll (xs : List (Nat × Nat)) (ls : List Ls) (ids : List Nat) : List (Nat × Nat) × List Ls × Nat := ids.foldl (cpStep xs ls) (List.replicate xs.length (0, 0), ls, 0)
theorem cpAll_snoc (xs : List (Nat × Nat)) (ls : List Ls) (ids : List Nat) (id : Nat) : cpAll xs ls (ids ++ [id]) = cpStep xs ls (cpAll xs ls ids) id := by
  unfold cpAll
  rw [List.foldl_append]
  rfl

/-- Among how many samples it holds. -/
def countTo (c : Nat → Bool) : Nat → Nat
  | 0 => 0
  | n + 1 => countTo c n + if c n then 1 else 0
theorem frees_count (c : Nat → Bool) : ∀ n, frees c n + countTo c n = n
  | 0 => rfl
  | n + 1 => by
    have := frees_count c n
    unfold frees countTo
    cases c n <;> simp <;> omega
theorem countTo_congr {c d : Nat → Bool} : ∀ n, (∀ i, i < n → c i = d i) → countTo c n = countTo d n
  | 0, _ => rfl
  | n + 1, h => by
    unfold countTo
    rw [countTo_congr n fun i hi => h i (by omega), h n (by omega)]
theorem countTo_or {c d : Nat → Bool} (hd : ∀ i, c i = true → d i = true → False) : ∀ n, countTo (fun i => c i || d i) n = countTo c n + countTo d n
  | 0 => rfl
  | n + 1 => by
    have e := countTo_or hd n
    have h := hd n
    show countTo (fun i => c i || d i) n + (if (c n || d n) then 1 else 0) = (countTo c n + if c n then 1 else 0) + (countTo d n + if d n then 1 else 0)
    rw [e]
    cases hc : c n <;> cases hd2 : d n <;> simp [hc, hd2] at h ⊢ <;> omega
theorem countTo_room (a b : Nat) : ∀ n, a + b ≤ n → countTo (fun i => decide (a ≤ i) && decide (i < a + b)) n = b := by
  have h : ∀ n, countTo (fun i => decide (a ≤ i) && decide (i < a + b)) n = min n (a + b) - min n a := by
    intro n
    induction n with
    | zero => simp [countTo]
    | succ n ih =>
      show countTo _ n + (if (decide (a ≤ n) && decide (n < a + b)) then 1 else 0) = _
      rw [ih]
      by_cases h1 : a ≤ n <;> by_cases h2 : n < a + b <;> simp [h1, h2] <;> omega
  intro n hn
  rw [h n]
  omega
theorem count_cv {n : Nat} : ∀ {ls : List Ls}, (∀ l ∈ ls, l.ok n) → ls.Pairwise Dj → countTo (cv ls) n = sumR ls := by
  intro ls
  induction ls with
  | nil =>
    intro _ _
    have h : ∀ m, countTo (cv []) m = 0 := by
      intro m
      induction m with
      | zero => rfl
      | succ m ih =>
        show countTo (cv []) m + (if cv [] m then 1 else 0) = 0
        rw [ih]
        rfl
    exact h n
  | cons l ls ih =>
    intro hok hdj
    rw [List.pairwise_cons] at hdj
    have e : cv (l :: ls) = fun i => cvl i l || cv ls i := by funext i; rfl
    rw [e, countTo_or (fun i h1 h2 => by
      unfold cv at h2
      obtain ⟨b, hb, hbc⟩ := List.any_eq_true.mp h2
      exact cvl_apart (hdj.1 b hb) h1 hbc), ih (fun l hl => hok l (List.mem_cons_of_mem _ hl)) hdj.2]
    have hl := hok l List.mem_cons_self
    have e2 : countTo (fun i => cvl i l) n = l.rm := by
      rcases hl with ⟨hf, h1, h2, h3⟩ | ⟨hf, h1, h2, h3⟩
      · have h : ∀ m, countTo (fun i => cvl i l) m = 0 := by
          intro m
          induction m with
          | zero => rfl
          | succ m ih =>
            show countTo (fun i => cvl i l) m + (if cvl m l then 1 else 0) = 0
            rw [ih]
            simp [cvl, hf]
        rw [h n, h3]
      · rw [countTo_congr (d := fun i => decide (l.st ≤ i) && decide (i < l.st + l.rm)) n (fun i _ => by simp [cvl, hf])]
        exact countTo_room _ _ _ h2
    rw [e2]
    simp [sumR]
theorem POk.sum {n : Nat} {ls : List Ls} (h : POk n ls) : frees (cv ls) n + sumR ls = n := by
  have := frees_count (cv ls) n
  rw [count_cv h.ok h.dj] at this
  exact this
theorem runTo_frees (c : Nat → Bool) : ∀ i, runTo c i ≤ frees c i
  | 0 => Nat.le_refl 0
  | i + 1 => by
    have := runTo_frees c i
    unfold runTo frees
    cases c i <;> simp
    exact this
theorem frees_mono (c : Nat → Bool) (i : Nat) : frees c i ≤ frees c (i + 1) := by
  show frees c i ≤ if c i then frees c i else frees c i + 1
  split <;> omega
theorem best_frees (c : Nat → Bool) : ∀ n, best c n ≤ frees c n
  | 0 => Nat.le_refl 0
  | n + 1 => by
    have h1 := best_frees c n
    have h2 := runTo_frees c (n + 1)
    have h3 := frees_mono c n
    show max (best c n) (runTo c (n + 1)) ≤ _
    omega

/-- What stands when some of the rooms are moved. -/
structure Cp (xs : List (Nat × Nat)) (ls : List Ls) (done : List Nat) (s : List (Nat × Nat) × List Ls × Nat) : Prop where
  ylen : s.1.length = xs.length
  mlen : s.2.1.length = ls.length
  sum : s.2.2 = (done.map fun id => (ls.getD id Ls.free).rm).sum
  old : ∀ id, id ∉ done → s.2.1[id]? = ls[id]?
  new : ∀ id, id ∈ done → ∃ l o, ls[id]? = some l ∧ l.fr = false ∧ s.2.1[id]? = some ⟨o, l.ct, l.rm, false⟩ ∧ o + l.rm ≤ s.2.2 ∧ (s.1.drop o).take l.rm = (xs.drop l.st).take l.rm
  apart : ∀ i j a b, i ∈ done → j ∈ done → i ≠ j → s.2.1[i]? = some a → s.2.1[j]? = some b → a.st + a.rm ≤ b.st ∨ b.st + b.rm ≤ a.st
  cover : ∀ q, q < s.2.2 → ∃ i a, i ∈ done ∧ s.2.1[i]? = some a ∧ a.st ≤ q ∧ q < a.st + a.rm
theorem Cp.start (xs : List (Nat × Nat)) (ls : List Ls) : Cp xs ls [] (List.replicate xs.length (0, 0), ls, 0) :=
  ⟨by simp, rfl, rfl, fun _ _ => rfl, fun _ h => absurd h (by simp), fun _ _ _ _ h => absurd h (by simp), fun q (h : q < 0) => absurd h (by omega)⟩

theorem getD_getElem? {α : Type} (l : List α) (i : Nat) (d : α) : l.getD i d = (l[i]?).getD d := by
  simp
theorem win_get (xs : List (Nat × Nat)) (o r j : Nat) (h : j < r) : ((xs.drop o).take r)[j]? = xs[o + j]? := by
  rw [List.getElem?_take, if_pos h, List.getElem?_drop]
theorem laid_get (xs : List (Nat × Nat)) (p : Nat) (ys : List (Nat × Nat)) (j : Nat) (h : j < xs.length) : (laid xs p ys)[j]? = some (if p ≤ j then ys.getD (j - p) (xs.getD j (0, 0)) else xs.getD j (0, 0)) := by
  simp [laid, h]
theorem laid_before (xs : List (Nat × Nat)) (p : Nat) (ys : List (Nat × Nat)) (o r : Nat) (h : o + r ≤ p) : ((laid xs p ys).drop o).take r = (xs.drop o).take r := by
  apply List.ext_getElem?
  intro j
  by_cases hj : j < r
  · rw [win_get _ _ _ _ hj, win_get _ _ _ _ hj]
    by_cases hx : o + j < xs.length
    · rw [laid_get _ _ _ _ hx, if_neg (by omega), getD_getElem?, List.getElem?_eq_getElem hx]
      rfl
    · rw [List.getElem?_eq_none (by rw [laid_len]; omega), List.getElem?_eq_none (by omega)]
  · rw [List.getElem?_eq_none (by rw [List.length_take]; omega), List.getElem?_eq_none (by rw [List.length_take]; omega)]
theorem laid_behind (xs : List (Nat × Nat)) (p : Nat) (ys : List (Nat × Nat)) (o r : Nat) (h : p + ys.length ≤ o) : ((laid xs p ys).drop o).take r = (xs.drop o).take r := by
  apply List.ext_getElem?
  intro j
  by_cases hj : j < r
  · rw [win_get _ _ _ _ hj, win_get _ _ _ _ hj]
    by_cases hx : o + j < xs.length
    · rw [laid_get _ _ _ _ hx, if_pos (by omega), getD_getElem?, List.getElem?_eq_none (by omega), Option.getD_none, getD_getElem?, List.getElem?_eq_getElem hx]
      rfl
    · rw [List.getElem?_eq_none (by rw [laid_len]; omega), List.getElem?_eq_none (by omega)]
  · rw [List.getElem?_eq_none (by rw [List.length_take]; omega), List.getElem?_eq_none (by rw [List.length_take]; omega)]
theorem laid_there (xs : List (Nat × Nat)) (p : Nat) (ys : List (Nat × Nat)) (r : Nat) (hr : ys.length = r) (h : p + r ≤ xs.length) : ((laid xs p ys).drop p).take r = ys := by
  apply List.ext_getElem?
  intro j
  by_cases hj : j < r
  · rw [win_get _ _ _ _ hj, laid_get _ _ _ _ (by omega), if_pos (by omega), getD_getElem?, show p + j - p = j by omega, List.getElem?_eq_getElem (by omega)]
    rfl
  · rw [List.getElem?_eq_none (by rw [List.length_take]; omega), List.getElem?_eq_none (by omega)]

theorem Cp.step {xs : List (Nat × Nat)} {ls : List Ls} {done : List Nat} {s : List (Nat × Nat) × List Ls × Nat} (h : Cp xs ls done s) {id : Nat} {l : Ls} (hid : id ∉ done) (hl : ls[id]? = some l) (hf : l.fr = false)
    (h1 : s.2.2 + l.rm ≤ xs.length) (h2 : l.st + l.rm ≤ xs.length) (h3 : 1 ≤ l.rm) : Cp xs ls (done ++ [id]) (cpStep xs ls s id) := by
  obtain ⟨ys, ms, at'⟩ := s
  have e : cpStep xs ls (ys, ms, at') id = (laid ys at' ((xs.drop l.st).take l.rm), ms.set id ⟨at', l.ct, l.rm, l.fr⟩, at' + l.rm) := by
    unfold cpStep
    rw [hl]
  rw [e]
  have hlt := (List.getElem?_eq_some_iff.mp hl).1
  have hy : ys.length = xs.length := h.ylen
  have hm : ms.length = ls.length := h.mlen
  dsimp only at h1
  have hw : ((xs.drop l.st).take l.rm).length = l.rm := by
    rw [List.length_take, List.length_drop]
    omega
  have hid2 : (ms.set id ⟨at', l.ct, l.rm, l.fr⟩)[id]? = some ⟨at', l.ct, l.rm, l.fr⟩ := by
    rw [List.getElem?_set, if_pos rfl, if_pos (by omega)]
  have hne : ∀ i, i ≠ id → (ms.set id ⟨at', l.ct, l.rm, l.fr⟩)[i]? = ms[i]? := fun i hi => by
    rw [List.getElem?_set, if_neg (fun h => hi h.symm)]
  refine ⟨?_, ?_, ?_, ?_, ?_, ?_, ?_⟩
  · show (laid ys at' _).length = xs.length
    rw [laid_len, hy]
  · show (ms.set id _).length = ls.length
    rw [List.length_set, hm]
  · show at' + l.rm = _
    have hs : at' = _ := h.sum
    rw [List.map_append, List.sum_append, ← hs]
    simp [hl]
  · intro i hi
    show (ms.set id _)[i]? = _
    simp at hi
    rw [hne i hi.2]
    exact h.old i hi.1
  · intro i hi
    show ∃ l' o, ls[i]? = some l' ∧ l'.fr = false ∧ (ms.set id _)[i]? = _ ∧ o + l'.rm ≤ at' + l.rm ∧ ((laid ys at' _).drop o).take l'.rm = _
    rw [List.mem_append, List.mem_singleton] at hi
    by_cases hii : i = id
    · subst hii
      refine ⟨l, at', hl, hf, by rw [hid2, hf], Nat.le_refl _, ?_⟩
      exact laid_there _ _ _ _ hw (by omega)
    · rcases hi with hi | hi
      · obtain ⟨l', o, q1, q2, q3, q4, q5⟩ := h.new i hi
        dsimp only at q3 q4 q5
        exact ⟨l', o, q1, q2, by rw [hne i hii]; exact q3, by omega, by rw [laid_before _ _ _ _ _ q4]; exact q5⟩
      · exact absurd hi hii
  · intro i j a b hi hj hij ha hb
    replace ha : (ms.set id ⟨at', l.ct, l.rm, l.fr⟩)[i]? = some a := ha
    replace hb : (ms.set id ⟨at', l.ct, l.rm, l.fr⟩)[j]? = some b := hb
    rw [List.mem_append, List.mem_singleton] at hi hj
    by_cases hii : i = id
    · subst hii
      rw [hid2] at ha
      obtain rfl := Option.some.inj ha
      have hjj : j ≠ i := fun h => hij h.symm
      rcases hj with hj | hj
      · obtain ⟨l', o, q1, q2, q3, q4, q5⟩ := h.new j hj
        dsimp only at q3 q4 q5
        rw [hne j hjj, q3] at hb
        obtain rfl := Option.some.inj hb
        exact .inr q4
      · exact absurd hj hjj
    · rcases hi with hi | hi
      · rw [hne i hii] at ha
        by_cases hjj : j = id
        · subst hjj
          rw [hid2] at hb
          obtain rfl := Option.some.inj hb
          obtain ⟨l', o, q1, q2, q3, q4, q5⟩ := h.new i hi
          dsimp only at q3 q4 q5
          rw [q3] at ha
          obtain rfl := Option.some.inj ha
          exact .inl q4
        · rcases hj with hj | hj
          · rw [hne j hjj] at hb
            exact h.apart i j a b hi hj hij ha hb
          · exact absurd hj hjj
      · exact absurd hi hii
  · intro q hq
    replace hq : q < at' + l.rm := hq
    by_cases hqa : q < at'
    · obtain ⟨i, a, q1, q2, q3, q4⟩ := h.cover q hqa
      have hne2 : i ≠ id := fun e => hid (e ▸ q1)
      exact ⟨i, a, List.mem_append_left _ q1, by show (ms.set id _)[i]? = _; rw [hne i hne2]; exact q2, q3, q4⟩
    · exact ⟨id, _, by simp, hid2, by show at' ≤ q; omega, by show q < at' + l.rm; omega⟩

theorem mem_lentIds {ls : List Ls} {id : Nat} : id ∈ lentIds ls ↔ lentB ls id = true := by
  unfold lentIds
  rw [List.mem_filter, List.mem_range]
  constructor
  · exact fun h => h.2
  · exact fun h => ⟨(lentB_true h).choose_spec.2.2, h⟩
theorem nodup_lentIds (ls : List Ls) : (lentIds ls).Nodup := List.filter_sublist.nodup List.nodup_range
theorem sum_lentIds {n : Nat} {ls : List Ls} (h : ∀ l ∈ ls, l.ok n) : ((lentIds ls).map fun id => (ls.getD id Ls.free).rm).sum = sumR ls := by
  have hg : ∀ (k : Nat), k ≤ ls.length → (((List.range k).filter (lentB ls)).map fun id => (ls.getD id Ls.free).rm).sum = sumR (ls.take k) := by
    intro k
    induction k with
    | zero => intro _; rfl
    | succ k ih =>
      intro hk
      have e := ih (by omega)
      have hl : ls[k]? = some ls[k] := List.getElem?_eq_getElem (by omega)
      have hok := h ls[k] (List.getElem_mem _)
      rw [List.range_succ, List.filter_append, List.map_append, List.sum_append, e, List.take_succ_eq_append_getElem (by omega)]
      unfold sumR
      rw [List.map_append, List.sum_append]
      congr 1
      cases hf : ls[k].fr
      · simp [lentB_some hl, hf, hl]
      · rcases hok with ⟨_, _, _, h3⟩ | ⟨h1, _⟩
        · simp [lentB_some hl, hf, h3]
        · rw [hf] at h1; cases h1
  have := hg ls.length (Nat.le_refl _)
  rw [List.take_length] at this
  exact this

/-- All of them, in some order. -/
theorem Cp.all {xs : List (Nat × Nat)} {ls : List Ls} (hp : POk xs.length ls) {ids : List Nat} (hperm : ids.Perm (lentIds ls)) : ∀ k, k ≤ ids.length → Cp xs ls (ids.take k) (cpAll xs ls (ids.take k)) := by
  have hnd : ids.Nodup := hperm.nodup_iff.mpr (nodup_lentIds ls)
  have hsum : (ids.map fun id => (ls.getD id Ls.free).rm).sum = sumR ls := by
    rw [← sum_lentIds hp.ok]
    exact (hperm.map _).sum_nat
  have hle : sumR ls ≤ xs.length := by have := hp.sum; omega
  intro k
  induction k with
  | zero => intro _; exact Cp.start xs ls
  | succ k ih =>
    intro hk
    have hc := ih (by omega)
    have hlt : k < ids.length := by omega
    rw [List.take_succ_eq_append_getElem hlt, cpAll_snoc]
    have hm : ids[k] ∈ lentIds ls := hperm.mem_iff.mp (List.getElem_mem _)
    obtain ⟨l, hl, hf, hll⟩ := lentB_true (mem_lentIds.mp hm)
    have hok := hp.ok l (List.mem_of_getElem? hl)
    rcases hok with ⟨h1, _⟩ | ⟨_, h1, h2, h3⟩
    · rw [hf] at h1; cases h1
    · have hnot : ids[k] ∉ ids.take k := by
        intro hmem
        obtain ⟨j, hj, e⟩ := List.getElem_of_mem hmem
        rw [List.length_take] at hj
        rw [List.getElem_take] at e
        have := (List.nodup_iff_pairwise_ne.mp hnd)
        have := List.pairwise_iff_getElem.mp this j k (by omega) hlt (by omega)
        exact this e
      refine hc.step hnot hl hf ?_ h2 h1
      have e1 : (cpAll xs ls (ids.take k)).2.2 = _ := hc.sum
      have e2 : ids = ids.take k ++ ids[k] :: ids.drop (k + 1) := by
        rw [← List.drop_eq_getElem_cons hlt, List.take_append_drop]
      have e3 : (ids.map fun id => (ls.getD id Ls.free).rm).sum = ((ids.take k).map fun id => (ls.getD id Ls.free).rm).sum + (l.rm + ((ids.drop (k + 1)).map fun id => (ls.getD id Ls.free).rm).sum) := by
        conv => lhs; rw [e2]
        rw [List.map_append, List.sum_append, List.map_cons, List.sum_cons]
        simp [hl]
      rw [e1]
      omega
theorem cp_at {xs : List (Nat × Nat)} {ls : List Ls} (hp : POk xs.length ls) {ids : List Nat} (hperm : ids.Perm (lentIds ls)) {k : Nat} (hk : k < ids.length) :
    ∃ l, ls[ids[k]]? = some l ∧ l.fr = false ∧ ids[k] < ls.length ∧ l.st + l.rm ≤ xs.length ∧ l.ct ≤ l.rm ∧ (cpAll xs ls (ids.take k)).2.2 + l.rm ≤ xs.length ∧
      (cpAll xs ls (ids.take k)).2.1[ids[k]]? = some l ∧ cpAll xs ls (ids.take (k + 1)) = (laid (cpAll xs ls (ids.take k)).1 (cpAll xs ls (ids.take k)).2.2 ((xs.drop l.st).take l.rm), (cpAll xs ls (ids.take k)).2.1.set ids[k] ⟨(cpAll xs ls (ids.take k)).2.2, l.ct, l.rm, l.fr⟩, (cpAll xs ls (ids.take k)).2.2 + l.rm) := by
  have hc := Cp.all hp hperm k (by omega)
  have hc1 := Cp.all hp hperm (k + 1) (by omega)
  have hm : ids[k] ∈ lentIds ls := hperm.mem_iff.mp (List.getElem_mem _)
  obtain ⟨l, hl, hf, hll⟩ := lentB_true (mem_lentIds.mp hm)
  have hok := hp.ok l (List.mem_of_getElem? hl)
  have hnd : ids.Nodup := hperm.nodup_iff.mpr (nodup_lentIds ls)
  have hnot : ids[k] ∉ ids.take k := by
    intro hmem
    obtain ⟨j, hj, e⟩ := List.getElem_of_mem hmem
    rw [List.length_take] at hj
    rw [List.getElem_take] at e
    have := (List.nodup_iff_pairwise_ne.mp hnd)
    have := List.pairwise_iff_getElem.mp this j k (by omega) hk (by omega)
    exact this e
  have e : cpAll xs ls (ids.take (k + 1)) = (laid (cpAll xs ls (ids.take k)).1 (cpAll xs ls (ids.take k)).2.2 ((xs.drop l.st).take l.rm), (cpAll xs ls (ids.take k)).2.1.set ids[k] ⟨(cpAll xs ls (ids.take k)).2.2, l.ct, l.rm, l.fr⟩, (cpAll xs ls (ids.take k)).2.2 + l.rm) := by
    rw [List.take_succ_eq_append_getElem hk, cpAll_snoc]
    unfold cpStep
    rw [hl]
  rcases hok with ⟨h1, _⟩ | ⟨_, h1, h2, h3⟩
  · rw [hf] at h1; cases h1
  · refine ⟨l, hl, hf, hll, h2, h3, ?_, ?_, e⟩
    · have hmem : ids[k] ∈ ids.take (k + 1) := by
        rw [List.take_succ_eq_append_getElem hk, List.mem_append]
        exact .inr (List.mem_singleton.mpr rfl)
      have hb : (cpAll xs ls (ids.take (k + 1))).2.2 ≤ xs.length := by
        have e1 : (cpAll xs ls (ids.take (k + 1))).2.2 = _ := hc1.sum
        have hsum : (ids.map fun id => (ls.getD id Ls.free).rm).sum = sumR ls := by
          rw [← sum_lentIds hp.ok]
          exact (hperm.map _).sum_nat
        have e3 : (ids.map fun id => (ls.getD id Ls.free).rm).sum = ((ids.take (k + 1)).map fun id => (ls.getD id Ls.free).rm).sum + ((ids.drop (k + 1)).map fun id => (ls.getD id Ls.free).rm).sum := by
          conv => lhs; rw [← List.take_append_drop (k + 1) ids]
          rw [List.map_append, List.sum_append]
        have := hp.sum
        omega
      rw [e] at hb
      exact hb
    · rw [hc.old _ hnot]
      exact hl

/-- The pool behind compacting. -/
structure CpEnd (xs : List (Nat × Nat)) (ls : List Ls) (ys : List (Nat × Nat)) (ms : List Ls) : Prop where
  ok : POk ys.length ms
  ylen : ys.length = xs.length
  mlen : ms.length = ls.length
  fr : frees (cv ms) ys.length = frees (cv ls) xs.length
  be : best (cv ms) ys.length = frees (cv ls) xs.length
  win : ∀ k, winP ys ms k = winP xs ls k
theorem runTo_tail (T : Nat) : ∀ i, runTo (fun j => decide (j < T)) i = i - T
  | 0 => by simp [runTo]
  | i + 1 => by
    show (if decide (i < T) then 0 else runTo (fun j => decide (j < T)) i + 1) = _
    rw [runTo_tail T i]
    by_cases h : i < T <;> simp [h] <;> omega
theorem best_tail (T : Nat) : ∀ n, best (fun j => decide (j < T)) n = n - T
  | 0 => by simp [best]
  | n + 1 => by
    show max (best (fun j => decide (j < T)) n) (runTo (fun j => decide (j < T)) (n + 1)) = _
    rw [best_tail T n, runTo_tail T (n + 1)]
    omega
theorem best_congr {c d : Nat → Bool} : ∀ n, (∀ j, j < n → c j = d j) → best c n = best d n
  | 0, _ => rfl
  | n + 1, h => by
    unfold best
    rw [best_congr n fun j hj => h j (by omega), runTo_congr (n + 1) h]
theorem cp_end {xs : List (Nat × Nat)} {ls : List Ls} (hp : POk xs.length ls) {ids : List Nat} (hperm : ids.Perm (lentIds ls)) : CpEnd xs ls (cpAll xs ls ids).1 (cpAll xs ls ids).2.1 := by
  have hc := Cp.all hp hperm ids.length (Nat.le_refl _)
  rw [List.take_length] at hc
  have hsum : (ids.map fun id => (ls.getD id Ls.free).rm).sum = sumR ls := by
    rw [← sum_lentIds hp.ok]
    exact (hperm.map _).sum_nat
  have hT := hp.sum
  have hmem : ∀ id, id ∈ ids ↔ lentB ls id = true := fun id => hperm.mem_iff.trans mem_lentIds
  generalize cpAll xs ls ids = s at hc
  obtain ⟨ys, ms, T⟩ := s
  have hs : T = _ := hc.sum
  rw [hsum] at hs
  have hy : ys.length = xs.length := hc.ylen
  have hm : ms.length = ls.length := hc.mlen
  show CpEnd xs ls ys ms
  have hcase : ∀ (k : Nat) (a : Ls), ms[k]? = some a → (k ∉ ids ∧ a = Ls.free ∧ ls[k]? = some Ls.free) ∨ (k ∈ ids ∧ ∃ l, ls[k]? = some l ∧ l.fr = false ∧ a = ⟨a.st, l.ct, l.rm, false⟩ ∧ a.st + l.rm ≤ T ∧ (ys.drop a.st).take l.rm = (xs.drop l.st).take l.rm) := by
    intro k a ha
    by_cases hk : k ∈ ids
    · right
      obtain ⟨l, o, q1, q2, q3, q4, q5⟩ := hc.new k hk
      have q3 : ms[k]? = _ := q3
      rw [q3] at ha
      obtain rfl := Option.some.inj ha
      exact ⟨hk, l, q1, q2, rfl, q4, q5⟩
    · left
      have q : ms[k]? = ls[k]? := hc.old k hk
      rw [ha] at q
      have hfr : a.fr = true := by
        cases hf : a.fr
        · exact absurd ((hmem k).mpr (by rw [lentB_some q.symm, hf]; rfl)) hk
        · rfl
      have := Ls.eq_free (hp.ok a (List.mem_of_getElem? q.symm)) hfr
      subst this
      exact ⟨hk, rfl, q.symm⟩
  have hcv : ∀ i, i < ys.length → cv ms i = decide (i < T) := by
    intro i hi
    by_cases h : i < T
    · simp only [h, decide_true]
      obtain ⟨j, a, q1, q2, q3, q4⟩ := hc.cover i h
      have q2 : ms[j]? = some a := q2
      unfold cv
      rw [List.any_eq_true]
      refine ⟨a, List.mem_of_getElem? q2, ?_⟩
      obtain ⟨l, o, r1, r2, r3, r4, r5⟩ := hc.new j q1
      have r3 : ms[j]? = _ := r3
      rw [q2] at r3
      obtain rfl := Option.some.inj r3
      simp [cvl]
      exact ⟨q3, q4⟩
    · simp only [h, decide_false]
      unfold cv
      rw [List.any_eq_false]
      intro a ha
      obtain ⟨k, hk⟩ := List.getElem?_of_mem ha
      rcases hcase k a hk with ⟨_, rfl, _⟩ | ⟨_, l, _, _, ea, hle, _⟩
      · simp [cvl, Ls.free]
      · rw [ea]
        simp [cvl]
        omega
  refine ⟨⟨by rw [hy]; exact hp.nle, by rw [hm]; exact hp.len, ?_, ?_⟩, hy, hm, ?_, ?_, ?_⟩
  · intro a ha
    obtain ⟨k, hk⟩ := List.getElem?_of_mem ha
    rcases hcase k a hk with ⟨_, rfl, _⟩ | ⟨_, l, hl, hf, ea, hle, _⟩
    · exact .inl ⟨rfl, rfl, rfl, rfl⟩
    · rcases hp.ok l (List.mem_of_getElem? hl) with ⟨h1, _⟩ | ⟨_, h1, h2, h3⟩
      · rw [hf] at h1; cases h1
      · rw [ea]
        exact .inr ⟨rfl, h1, by show a.st + l.rm ≤ ys.length; omega, h3⟩
  · rw [List.pairwise_iff_getElem]
    intro i j hi hj hij
    have ei := List.getElem?_eq_getElem hi
    have ej := List.getElem?_eq_getElem hj
    rcases hcase i _ ei with ⟨_, e, _⟩ | ⟨mi, _⟩
    · rw [e]; exact .inl rfl
    · rcases hcase j _ ej with ⟨_, e, _⟩ | ⟨mj, _⟩
      · rw [e]; exact .inr (.inl rfl)
      · exact .inr (.inr (hc.apart i j _ _ mi mj (by omega) ei ej))
  · have h1 : frees (cv ms) ys.length + countTo (cv ms) ys.length = _ := frees_count _ _
    rw [countTo_congr (d := fun j => decide (0 ≤ j) && decide (j < 0 + T)) ys.length (fun i hi => by rw [hcv i hi]; simp), countTo_room 0 T _ (by omega)] at h1
    omega
  · rw [best_congr _ hcv, best_tail]
    omega
  · intro k
    unfold winP
    cases hk : ms[k]? with
    | none =>
      have : ls[k]? = none := by
        rw [List.getElem?_eq_none_iff] at hk ⊢
        omega
      rw [this]
    | some a =>
      rcases hcase k a hk with ⟨_, rfl, hl⟩ | ⟨_, l, hl, hf, ea, hle, hw⟩
      · rw [hl]
        rfl
      · rw [hl, ea]
        show some ((ys.drop a.st).take l.ct) = if l.fr = false then some ((xs.drop l.st).take l.ct) else none
        rw [if_pos hf]
        rcases hp.ok l (List.mem_of_getElem? hl) with ⟨h1, _⟩ | ⟨_, h1, h2, h3⟩
        · rw [hf] at h1; cases h1
        · have e : ∀ zs : List (Nat × Nat), zs.take l.ct = (zs.take l.rm).take l.ct := fun zs => by
            rw [List.take_take, Nat.min_eq_left h3]
          rw [e, hw, ← e]

/-- What is appended is seen by its holder alone. -/
theorem app_facts {xs : List (Nat × Nat)} {ls : List Ls} {id : Nat} {zs : List (Nat × Nat)} {r : List (Nat × Nat) × List Ls} (hp : POk xs.length ls) (e : appP xs ls id zs = some r) :
    POk r.1.length r.2 ∧ (∃ W, winP xs ls id = some W ∧ winP r.1 r.2 id = some (W ++ zs)) ∧ ∀ k, k ≠ id → winP r.1 r.2 k = winP xs ls k := by
  have hok2 := (appP_ok hp e).1
  unfold appP at e
  cases hl : ls[id]? with
  | none => rw [hl] at e; cases e
  | some l =>
    rw [hl] at e
    dsimp only at e
    split at e
    · rename_i hc
      obtain ⟨hf, hc⟩ := hc
      obtain rfl := Option.some.inj e
      have hlt := (List.getElem?_eq_some_iff.mp hl).1
      rcases hp.ok l (List.mem_of_getElem? hl) with ⟨h1, _⟩ | ⟨_, h1, h2, h3⟩
      · rw [hf] at h1; cases h1
      · refine ⟨hok2, ⟨_, winP_some hl hf, ?_⟩, ?_⟩
        · have hat : (ls.set id ⟨l.st, l.ct + zs.length, l.rm, false⟩)[id]? = some ⟨l.st, l.ct + zs.length, l.rm, false⟩ := by simp [hlt]
          show winP (laid xs (l.st + l.ct) zs) (ls.set id _) id = _
          rw [winP_some hat rfl]
          congr 1
          show ((laid xs (l.st + l.ct) zs).drop l.st).take (l.ct + zs.length) = _
          rw [List.take_add, laid_before _ _ _ _ _ (Nat.le_refl _), List.drop_drop, laid_there _ _ _ _ rfl (by omega)]
        · intro k hk
          show winP (laid xs (l.st + l.ct) zs) (ls.set id _) k = _
          have hg : (ls.set id ⟨l.st, l.ct + zs.length, l.rm, false⟩)[k]? = ls[k]? := by
            rw [List.getElem?_set, if_neg (fun h => hk h.symm)]
          unfold winP
          rw [hg]
          cases hm : ls[k]? with
          | none => rfl
          | some m =>
            dsimp only
            by_cases hmf : m.fr = false
            · rw [if_pos hmf, if_pos hmf]
              congr 1
              have hd : Dj m l := by
                obtain ⟨i1, i2⟩ := List.getElem?_eq_some_iff.mp hm
                obtain ⟨j1, j2⟩ := List.getElem?_eq_some_iff.mp hl
                rcases Nat.lt_or_ge k id with h | h
                · have := List.pairwise_iff_getElem.mp hp.dj k id i1 j1 h
                  rw [i2, j2] at this
                  exact this
                · have := List.pairwise_iff_getElem.mp hp.dj id k j1 i1 (by omega)
                  rw [i2, j2] at this
                  exact this.symm
              rcases hp.ok m (List.mem_of_getElem? hm) with ⟨g1, _⟩ | ⟨_, g1, g2, g3⟩
              · rw [hmf] at g1; cases g1
              · rcases hd with d | d | d | d
                · rw [hmf] at d; cases d
                · rw [hf] at d; cases d
                · exact laid_before _ _ _ _ _ (by omega)
                · exact laid_behind _ _ _ _ _ (by omega)
            · rw [if_neg hmf, if_neg hmf]
    · cases e
end Go.Proofs.Ytopkehknaclhlaa

/- Sorting ids by the starts of their leases, after the shelf's contract of slices.SortFunc. Conditions: each id is one of a lease. -/
namespace Go.Proofs.Ytopkehknaclhlaa
open Go Go.RowKit Go.Shelf Go.Sort

def sortL_ren : Go.Shelf.Ren := ⟨fun | 6 => 108 | 15 => 146 | 14 => 145 | 28 => 178 | 29 => 179 | 20 => 170 | 21 => 171 | 22 => 172 | 23 => 173 | 24 => 174 | 25 => 175 | 26 => 176 | 27 => 177 | 46 => 190 | 47 => 191 | 48 => 192 | 49 => 193 | 50 => 194 | 57 => 200 | n => n, fun | 22 => 34 | 24 => 3 | 25 => 129 | 3 => 3 | 39 => 165 | 0 => 0 | 53 => 180 | 55 => 191 | 4 => 4 | 46 => 184 | 45 => 183 | 50 => 104 | 5 => 5 | 9 => 9 | 66 => 194 | 70 => 198 | 76 => 201 | 77 => 72 | n => n, fun | n => n⟩
theorem sortL : Go.Proofs.SlLaysF.n6 Try.prog sortL_ren := {
  mixed := by kernel_rfl
  f6 := ⟨Try.f108.name, by decide, Try.func108.trans (congrArg some (by kernel_rfl))⟩
  f14 := ⟨Try.f145.name, by decide, Try.func145.trans (congrArg some (by kernel_rfl))⟩
  f15 := Try.func146.trans (congrArg some (by kernel_rfl))
  f20 := ⟨Try.f170.name, by decide, Try.func170.trans (congrArg some (by kernel_rfl))⟩
  f21 := ⟨Try.f171.name, by decide, Try.func171.trans (congrArg some (by kernel_rfl))⟩
  f22 := ⟨Try.f172.name, by decide, Try.func172.trans (congrArg some (by kernel_rfl))⟩
  f23 := ⟨Try.f173.name, by decide, Try.func173.trans (congrArg some (by kernel_rfl))⟩
  f24 := ⟨Try.f174.name, by decide, Try.func174.trans (congrArg some (by kernel_rfl))⟩
  f25 := ⟨Try.f175.name, by decide, Try.func175.trans (congrArg some (by kernel_rfl))⟩
  f26 := ⟨Try.f176.name, by decide, Try.func176.trans (congrArg some (by kernel_rfl))⟩
  f27 := ⟨Try.f177.name, by decide, Try.func177.trans (congrArg some (by kernel_rfl))⟩
  f28 := Try.func178.trans (congrArg some (by kernel_rfl))
  f29 := Try.func179.trans (congrArg some (by kernel_rfl))
  f46 := ⟨Try.f190.name, by decide, Try.func190.trans (congrArg some (by kernel_rfl))⟩
  f47 := Try.func191.trans (congrArg some (by kernel_rfl))
  f48 := Try.func192.trans (congrArg some (by kernel_rfl))
  f49 := ⟨Try.f193.name, by decide, Try.func193.trans (congrArg some (by kernel_rfl))⟩
  f50 := ⟨Try.f194.name, by decide, Try.func194.trans (congrArg some (by kernel_rfl))⟩
  f57 := ⟨Try.f200.name, by decide, Try.func200.trans (congrArg some (by kernel_rfl))⟩
  t0 := Try.underlying0
  a0 := Try.isAgg0
  z0 := Try.sizeOf0
  v0 := Try.zeroValue0
  t3 := Try.underlying3
  a3 := Try.isAgg3
  z3 := Try.sizeOf3
  v3 := Try.zeroValue3
  t4 := Try.underlying4
  a4 := Try.isAgg4
  z4 := Try.sizeOf4
  v4 := Try.zeroValue4
  t5 := Try.underlying5
  a5 := Try.isAgg5
  z5 := Try.sizeOf5
  v5 := Try.zeroValue5
  t9 := Try.underlying9
  a9 := Try.isAgg9
  z9 := Try.sizeOf9
  v9 := Try.zeroValue9
  t22 := Try.underlying34
  a22 := Try.isAgg34
  z22 := Try.sizeOf34
  v22 := Try.zeroValue34
  a24 := Try.isAgg3
  z24 := Try.sizeOf3
  t25 := Try.underlying129
  a25 := Try.isAgg129
  z25 := Try.sizeOf129
  v25 := Try.zeroValue129
  t39 := Try.underlying165
  a39 := Try.isAgg165
  z39 := Try.sizeOf165
  v39 := Try.zeroValue165
  t45 := Try.underlying183
  a45 := Try.isAgg183
  z45 := Try.sizeOf183
  v45 := Try.zeroValue183
  t46 := Try.underlying184
  a46 := Try.isAgg184
  z46 := Try.sizeOf184
  v46 := Try.zeroValue184
  t50 := Try.underlying104
  a50 := Try.isAgg104
  z50 := Try.sizeOf104
  v50 := Try.zeroValue104
  t53 := Try.underlying180
  a53 := Try.isAgg180
  z53 := Try.sizeOf180
  v53 := Try.zeroValue180
  t55 := Try.underlying191
  a55 := Try.isAgg191
  z55 := Try.sizeOf191
  v55 := Try.zeroValue191
  t66 := Try.underlying194
  a66 := Try.isAgg194
  z66 := Try.sizeOf194
  v66 := Try.zeroValue194
  t70 := Try.underlying198
  a70 := Try.isAgg198
  z70 := Try.sizeOf198
  v70 := Try.zeroValue198
  t76 := Try.underlying201
  a76 := Try.isAgg201
  z76 := Try.sizeOf201
  v76 := Try.zeroValue201
  t77 := Try.underlying72
  a77 := Try.isAgg72
  z77 := Try.sizeOf72
  v77 := Try.zeroValue72 }

set_option maxHeartbeats 1000000 in
/-- The comparison that sorting is handed: it reads the starts of two leases of the pool behind the pointer. -/
theorem cmpSt_calls (W : World) (bp : Nat) (s v : Value) (ls : List Ls) (box : W.heap[bp]? = some (.cells #[s, v] 67 (0, 0))) (hv : OwnL W 0 v ls) (hst : ∀ l ∈ ls, l.st ≤ 256) (x y : Nat) (hx : x < ls.length) (hy : y < ls.length) :
    Calls Try.prog 109 #[.int .i64 (x : Int), .int .i64 (y : Int), .pointer (some ⟨bp, 0, none⟩)] W (fun e w' => e = .returned (.int .i64 ((ls[x].st : Int) - (ls[y].st : Int))) ∧ ∃ q, w' = W.drewN q) := by
  obtain ⟨g, c, cur, rfl, hg0, hg, hc, hh, l, hl, cx0, cx1, cx2, cx3⟩ := hv.lease rfl hx
  obtain ⟨g', c', cur', e', hg0', hg', hc', hh', l', hl', cy0, cy1, cy2, cy3⟩ := hv.lease rfl hy
  injection e' with e1 _ e3
  injection e1 with e1
  injection e1 with e1
  subst e1 e3
  obtain rfl : ls[x] = l := by rw [List.getElem?_eq_getElem hx] at hl; exact Option.some.inj hl
  obtain rfl : ls[y] = l' := by rw [List.getElem?_eq_getElem hy] at hl'; exact Option.some.inj hl'
  have bx := hst ls[x] (List.getElem_mem hx)
  have yx := hst ls[y] (List.getElem_mem hy)
  generalize ls[x].st = p at *
  generalize ls[y].st = q at *
  have kb := cells_at box
  clear hv hst hh hh' box hl hl' cx1 cx2 cx3 cy1 cy2 cy3 hc hc'
  generalize ls.length = n at *
  have x1 : ¬ ((x : Int) < 0) := by omega
  have y1 : ¬ ((y : Int) < 0) := by omega
  have x2 : (x : Int) < (n : Int) := by omega
  have y2 : (y : Int) < (n : Int) := by omega
  go_enter Try.func109, Try.ntmps109
  go_wp2_with fail
  go_quiet (fail)
  go_wp2_with fail
  go_ret
  refine ⟨?_, _, rfl⟩
  simp only [IntKind.wrap_i64]
  congr 2

theorem flatN (xs : List Int) : xs.flatMap encN.cells = xs.map (Value.int .i64) := by
  induction xs with
  | nil => rfl
  | cons x xs ih => rw [List.flatMap_cons, ih]; rfl

section
variable {α : Type} [Inhabited α]
theorem sw_heap (enc : α → Value) {w : World} {g n : Nat} {os : Array Obj} {cur : Array Value} {e : TypeId} {fr : Nat × Nat} (d : Array α) (hb : w.heap[g]? = some (.cells cur e fr)) :
    (sortWorld enc w g 0 n d os).heap[g]? = some (.cells (putCells enc 0 d cur) e fr) := by
  have hg : g < w.heap.size := (Array.getElem?_eq_some_iff.1 hb).1
  unfold sortWorld
  rw [heap_grow_old _ _ (by simpa [putRow, mapBlock] using hg)]
  simp [putRow, mapBlock, Sort.ahead, Array.getElem?_modify, hb, onCells]
theorem sw_chg (enc : α → Value) (w : World) (g n : Nat) (os : Array Obj) (d : Array α) : Chg (fun j => j = g) w (sortWorld enc w g 0 n d os) := by
  have hs : w.heap.size ≤ (sortWorld enc w g 0 n d os).heap.size := by simp [sortWorld, putRow, mapBlock, Sort.ahead, Sort.grow]
  refine ⟨rfl, rfl, rfl, hs, fun k hk hne => ?_⟩
  unfold sortWorld
  rw [heap_grow_old _ _ (by simpa [putRow, mapBlock] using hk)]
  have : g ≠ k := fun e => hne e.symm
  simp [putRow, mapBlock, Sort.ahead, Array.getElem?_modify, this]
theorem sw_take (enc : α → Value) (cur : Array Value) (ts : List α) (h : ts.length ≤ cur.size) : (putCells enc 0 ts.toArray cur).toList.take ts.length = ts.map enc := by
  apply List.ext_getElem?
  intro j
  by_cases hj : j < ts.length
  · rw [List.getElem?_take_of_lt hj, Array.getElem?_toList]
    simp [putCells, hj, show j < cur.size by omega]
  · rw [List.getElem?_take_eq_none (by omega), List.getElem?_eq_none (by simp; omega)]
end

/-- The order by starts. -/
def cfSt (ls : List Ls) (m : Nat) (x y : Fin (m + 1)) : Int := ((ls.getD x.val Ls.free).st : Int) - ((ls.getD y.val Ls.free).st : Int)
theorem cfSt_swo (ls : List Ls) (m : Nat) : SWO (ltOf (cfSt ls m)) where
  irrefl x := by simp [ltOf, cfSt]
  trans x y z h1 h2 := by simp [ltOf, cfSt] at *; omega
  ntrans x y z h1 h2 := by simp [ltOf, cfSt] at *; omega

theorem frees0 {w : World} {g : Nat} {cur : Array Value} {e : TypeId} (h : w.heap[g]? = some (.cells cur e (0, 0))) (i : Nat) : w.frozen? ⟨g, i, none⟩ = false := by
  simp [World.frozen?, h]

set_option maxHeartbeats 1000000 in
theorem sort_calls (w : World) (bp blk cap m base : Nat) (s v : Value) (ls : List Ls) (hl : ls.length = m + 1) (box : w.heap[bp]? = some (.cells #[s, v] 67 (0, 0))) (hv : OwnL w 0 v ls) (hst : ∀ l ∈ ls, l.st ≤ 256)
    (ids : List (Fin (m + 1))) (hn : ids.length ≤ 1000) (hb : OwnN w base (.slice (some ⟨blk, 0, none⟩) ids.length cap) (ids.map fun i => (i.val : Int))) (hbp : bp ≠ blk) (hvb : ∀ g, some g = v.ownBlock → g ≠ blk) :
    Calls Try.prog 108 #[.slice (some ⟨blk, 0, none⟩) ids.length cap, .func (.func 109) #[] #[.pointer (some ⟨bp, 0, none⟩)]] w (fun e w' =>
      e = .returned (.tuple #[]) ∧ Chg (fun j => j = blk) w w' ∧ ∃ ids' : List (Fin (m + 1)), ids'.Perm ids ∧ OwnN w' base (.slice (some ⟨blk, 0, none⟩) ids.length cap) (ids'.map fun i => (i.val : Int))) := by
  have hcells := hb.cellsOf.2
  rcases hb.2 with ⟨h0, _⟩ | ⟨g', cap', cur, hvv, hg, hh, hc, hm, hs, ht⟩
  · cases h0
  injection hvv with e1 e2 e3
  injection e1 with e1
  injection e1 with e1
  subst e1 e3
  have hk : encN.k = 1 := rfl
  rw [hk, Nat.mul_one] at hs
  rw [List.length_map] at hc
  have hblk : blk < w.heap.size := heap_lt hh
  have hH : Holds (fun x : Fin (m + 1) => Value.int .i64 (x.val : Int)) w blk 0 ids.toArray := by
    intro j hj
    refine ⟨?_, frees0 hh _⟩
    have hj' : j < ids.length := by simpa using hj
    have := hcells j (.int .i64 ((ids[j]'hj').val : Int)) (by rw [flatN]; simp [hj'])
    rw [Addr.add_lit] at this
    rw [this]
    simp [hj']
  have hcmp : CmpReads Try.prog 109 #[.pointer (some ⟨bp, 0, none⟩)] (fun x : Fin (m + 1) => Value.int .i64 (x.val : Int)) (cfSt ls m) blk 0 ids.toArray.size w := by
    intro q os dk hdk x y
    have G := sw_chg (fun x : Fin (m + 1) => Value.int .i64 (x.val : Int)) w blk q os dk
    have hx : x.val < ls.length := by omega
    have hy : y.val < ls.length := by omega
    have h := cmpSt_calls (sortWorld (fun x : Fin (m + 1) => Value.int .i64 (x.val : Int)) w blk 0 q dk os) bp s v ls (G.heap box hbp) (hv.chgN G hvb) hst x.val y.val hx hy
    have e : cfSt ls m x y = (ls[x.val].st : Int) - (ls[y.val].st : Int) := by
      unfold cfSt
      simp [hx, hy]
    rw [e]
    exact h
  have h := Any.slices_SortFunc sortL (fun x : Fin (m + 1) => Value.int .i64 (x.val : Int)) (fun _ => rfl) (cfSt ls m) (cfSt_swo ls m) 109 #[.pointer (some ⟨bp, 0, none⟩)] blk 0 cap ids.toArray w
    (enters_of Try.func109 (by kernel_rfl) rfl) hcmp.lays hH hblk (by simp; omega)
  change Calls Try.prog 108 _ _ _ at h
  rw [show ids.toArray.size = ids.length by simp] at h
  refine h.mono ?_
  rintro e w' ⟨rfl, d', n, os, hP, _, rfl⟩
  refine ⟨rfl, sw_chg _ w blk n os d', d'.toList, ?_, ?_⟩
  · have h3 := hP.2.2
    have hsz : d'.size = ids.length := by simpa using hP.1
    rw [Array.extract_eq_self_of_le (by omega)] at h3
    simpa using h3
  · have hsz : d'.size = ids.length := by simpa using hP.1
    refine ⟨by rw [flat_len, hk, Nat.mul_one, List.length_map], .inr ⟨blk, cap, putCells (fun x : Fin (m + 1) => Value.int .i64 (x.val : Int)) 0 d' cur, by simp [hsz], hg, sw_heap _ d' hh, by simp [hsz]; omega, hm, by simpa [putCells, hk] using hs, ?_⟩⟩
    rw [hk, Nat.mul_one, List.length_map, flatN, List.map_map]
    exact sw_take _ cur d'.toList (by simp [hsz]; omega)
end Go.Proofs.Ytopkehknaclhlaa
