/- Pools, plainly: what lending, giving back, cutting and appending make, and that it is valid again. Plain facts; conditions: as each says. -/
import Derived.Test.YtopkehknaclhlaaPa
import Derived.Test.YtopkehknaclhlaaNd
namespace Go.Proofs.Ytopkehknaclhlaa
open Go Go.RowKit

/-- Is a lease lent? -/
def lentB (ls : List Ls) (id : Nat) : Bool := match ls[id]? with | some l => !l.fr | none => false
theorem lentB_some {ls : List Ls} {id : Nat} {l : Ls} (h : ls[id]? = some l) : lentB ls id = !l.fr := by unfold lentB; rw [h]
theorem lentB_none {ls : List Ls} {id : Nat} (h : ls.length ≤ id) : lentB ls id = false := by unfold lentB; rw [List.getElem?_eq_none h]
theorem lentB_true {ls : List Ls} {id : Nat} (h : lentB ls id = true) : ∃ l, ls[id]? = some l ∧ l.fr = false ∧ id < ls.length := by
  unfold lentB at h
  cases hl : ls[id]? with
  | none => rw [hl] at h; cases h
  | some l =>
    rw [hl] at h
    refine ⟨l, rfl, by simpa using h, ?_⟩
    exact (List.getElem?_eq_some_iff.mp hl).1

/-- The free lease. -/
def Ls.free : Ls := ⟨0, 0, 0, true⟩
theorem Ls.eq_free {n : Nat} {l : Ls} (h : l.ok n) (hf : l.fr = true) : l = Ls.free := by
  rcases h with ⟨_, h1, h2, h3⟩ | ⟨h, _⟩
  · cases l; simp at *; subst h1 h2 h3 hf; rfl
  · rw [hf] at h; cases h

/-- A lease is put in the first place that is free, or behind all others. -/
def ffree (ls : List Ls) : Nat := ls.findIdx Ls.fr
def putL (ls : List Ls) (x : Ls) : Option (List Ls × Nat) :=
  if ffree ls < ls.length then some (ls.set (ffree ls) x, ffree ls) else if ls.length = 16 then none else some (ls ++ [x], ls.length)
theorem ffree_at {ls : List Ls} {k : Nat} {l : Ls} (h : ls[k]? = some l) (hf : l.fr = true) (hb : ∀ (j : Nat) (m : Ls), j < k → ls[j]? = some m → m.fr = false) : ffree ls = k := by
  unfold ffree
  obtain ⟨hk, hk2⟩ := List.getElem?_eq_some_iff.mp h
  rw [List.findIdx_eq hk]
  refine ⟨by rw [hk2]; exact hf, fun j hj => ?_⟩
  have := hb j _ hj (List.getElem?_eq_getElem (by omega))
  simpa using this
theorem ffree_none {ls : List Ls} (hb : ∀ (j : Nat) (m : Ls), ls[j]? = some m → m.fr = false) : ffree ls = ls.length := by
  unfold ffree
  rw [List.findIdx_eq_length]
  intro l hl
  obtain ⟨j, hj⟩ := List.getElem?_of_mem hl
  have := hb j l hj
  simpa using this
theorem ffree_lt {ls : List Ls} (h : ffree ls < ls.length) : ∃ l, ls[ffree ls]? = some l ∧ l.fr = true ∧ ∀ (j : Nat) (m : Ls), j < ffree ls → ls[j]? = some m → m.fr = false := by
  refine ⟨ls[ffree ls], List.getElem?_eq_getElem h, ?_, ?_⟩
  · exact List.findIdx_getElem (w := h)
  · intro j m hj hm
    have h2 := List.not_of_lt_findIdx (p := Ls.fr) (xs := ls) (i := j) hj
    obtain ⟨hj2, hm2⟩ := List.getElem?_eq_some_iff.mp hm
    rw [hm2] at h2
    simpa using h2
theorem ffree_ge {ls : List Ls} (h : ¬ ffree ls < ls.length) : ∀ (j : Nat) (m : Ls), ls[j]? = some m → m.fr = false := by
  intro j m hm
  have e : ls.findIdx Ls.fr = ls.length := by
    have := List.findIdx_le_length (p := Ls.fr) (xs := ls)
    unfold ffree at h
    omega
  rw [List.findIdx_eq_length] at e
  have := e m (List.mem_of_getElem? hm)
  simpa using this

/-- The first index below n of which it holds. -/
def firstAt (p : Nat → Bool) : Nat → Option Nat
  | 0 => none
  | n + 1 => match firstAt p n with
    | some i => some i
    | none => if p n then some n else none
theorem firstAt_none (p : Nat → Bool) : ∀ n, (∀ i, i < n → p i = false) → firstAt p n = none
  | 0, _ => rfl
  | n + 1, h => by
    unfold firstAt
    rw [firstAt_none p n fun i hi => h i (by omega)]
    simp [h n (by omega)]
theorem firstAt_some (p : Nat → Bool) : ∀ n k, k < n → p k = true → (∀ i, i < k → p i = false) → firstAt p n = some k
  | 0, k, h, _, _ => by omega
  | n + 1, k, h, hp, hb => by
    unfold firstAt
    rcases (by omega : k < n ∨ k = n) with h | rfl
    · rw [firstAt_some p n k h hp hb]
    · rw [firstAt_none p k hb]
      simp [hp]
theorem firstAt_is (p : Nat → Bool) : ∀ n k, firstAt p n = some k → k < n ∧ p k = true ∧ ∀ i, i < k → p i = false
  | 0, k, h => by cases h
  | n + 1, k, h => by
    unfold firstAt at h
    cases hf : firstAt p n with
    | some i =>
      rw [hf] at h
      obtain rfl := Option.some.inj h
      have := firstAt_is p n i hf
      exact ⟨by omega, this.2⟩
    | none =>
      rw [hf] at h
      cases hp : p n
      · simp [hp] at h
      · simp [hp] at h
        subst h
        refine ⟨by omega, hp, ?_⟩
        have hall : ∀ m, firstAt p m = none → ∀ i, i < m → p i = false := by
          intro m
          induction m with
          | zero => intro _ i hi; omega
          | succ m ih =>
            intro hm i hi
            unfold firstAt at hm
            cases hg : firstAt p m with
            | some j => rw [hg] at hm; cases hm
            | none =>
              rw [hg] at hm
              rcases (by omega : i < m ∨ i = m) with h | rfl
              · exact ih hg i h
              · cases hq : p i
                · rfl
                · simp [hq] at hm
        exact hall n hf
theorem firstAt_congr {p q : Nat → Bool} : ∀ n, (∀ i, i < n → p i = q i) → firstAt p n = firstAt q n
  | 0, _ => rfl
  | n + 1, h => by
    unfold firstAt
    rw [firstAt_congr n fun i hi => h i (by omega), h n (by omega)]

/-- Where a run of free samples is long enough for the first time. -/
def runAt (n : Nat) (ls : List Ls) (room : Nat) : Option Nat := firstAt (fun i => decide (room ≤ runTo (cv ls) (i + 1))) n
/-- Samples with zeros from p on, r of them. -/
def zeroed (xs : List (Nat × Nat)) (p r : Nat) : List (Nat × Nat) := (List.range xs.length).map fun j => if p ≤ j ∧ j < p + r then (0, 0) else xs.getD j (0, 0)
theorem zeroed_len (xs : List (Nat × Nat)) (p r : Nat) : (zeroed xs p r).length = xs.length := by simp [zeroed]
theorem zeroed_zero (xs : List (Nat × Nat)) (p : Nat) : zeroed xs p 0 = xs := by
  apply List.ext_getElem?
  intro j
  by_cases hj : j < xs.length
  · simp [zeroed, hj, show ¬ (p ≤ j ∧ j < p) by omega]
  · simp [zeroed, hj]
theorem zeroed_succ (xs : List (Nat × Nat)) (p r : Nat) : (zeroed xs p r).set (p + r) (0, 0) = zeroed xs p (r + 1) := by
  apply List.ext_getElem?
  intro j
  rw [List.getElem?_set, zeroed_len]
  by_cases hj : j < xs.length
  · by_cases e : p + r = j
    · subst e
      simp [zeroed, hj]
    · rw [if_neg e]
      simp [zeroed, hj]
      by_cases h2 : p ≤ j ∧ j < p + r
      · rw [if_pos h2, if_pos (by omega)]
      · rw [if_neg h2, if_neg (by omega)]
  · rw [List.getElem?_eq_none (l := zeroed xs p (r + 1)) (by rw [zeroed_len]; omega)]
    by_cases e : p + r = j
    · simp [e, hj]
    · rw [if_neg e, List.getElem?_eq_none (by rw [zeroed_len]; omega)]

def lendX (i room : Nat) : Ls := ⟨i + 1 - room, 0, room, false⟩
def lendP (xs : List (Nat × Nat)) (ls : List Ls) (room : Nat) : Option (List (Nat × Nat) × List Ls × Nat) :=
  match runAt xs.length ls room with
  | none => none
  | some i => (putL ls (lendX i room)).map fun r => (zeroed xs (i + 1 - room) room, r.1, r.2)
def giveP (xs : List (Nat × Nat)) (ls : List Ls) (id : Nat) : Option (List (Nat × Nat) × List Ls) :=
  if lentB ls id then some (xs, ls.set id Ls.free) else none
def cutA (l : Ls) (at' : Nat) : Ls := ⟨l.st, at', at', false⟩
def cutB (l : Ls) (at' : Nat) : Ls := ⟨l.st + at', l.ct - at', l.rm - at', false⟩
def cutP (xs : List (Nat × Nat)) (ls : List Ls) (id at' : Nat) : Option (List (Nat × Nat) × List Ls × Nat) :=
  match ls[id]? with
  | none => none
  | some l => if l.fr = false ∧ 1 ≤ at' ∧ at' ≤ l.ct ∧ at' + 1 ≤ l.rm then (putL (ls.set id (cutA l at')) (cutB l at')).map fun r => (xs, r.1, r.2) else none
/-- Samples with others laid over them from p on. -/
def laid (xs : List (Nat × Nat)) (p : Nat) (ys : List (Nat × Nat)) : List (Nat × Nat) := (List.range xs.length).map fun j => if p ≤ j then ys.getD (j - p) (xs.getD j (0, 0)) else xs.getD j (0, 0)
theorem laid_len (xs : List (Nat × Nat)) (p : Nat) (ys : List (Nat × Nat)) : (laid xs p ys).length = xs.length := by simp [laid]
def appP (xs : List (Nat × Nat)) (ls : List Ls) (id : Nat) (ys : List (Nat × Nat)) : Option (List (Nat × Nat) × List Ls) :=
  match ls[id]? with
  | none => none
  | some l => if l.fr = false ∧ l.ct + ys.length ≤ l.rm then some (laid xs (l.st + l.ct) ys, ls.set id ⟨l.st, l.ct + ys.length, l.rm, false⟩) else none

/-- A lease is put in another one's place. -/
theorem POk.set {n : Nat} {ls : List Ls} (h : POk n ls) (i : Nat) (x : Ls) (hx : x.ok n) (hd : ∀ (j : Nat) (l : Ls), ls[j]? = some l → j ≠ i → Dj l x) : POk n (ls.set i x) := by
  refine ⟨h.nle, by rw [List.length_set]; exact h.len, fun l hl => ?_, ?_⟩
  · rcases List.mem_or_eq_of_mem_set hl with hl | rfl
    · exact h.ok l hl
    · exact hx
  · rw [List.pairwise_iff_getElem]
    intro a b ha hb hab
    rw [List.length_set] at ha hb
    have hp := List.pairwise_iff_getElem.mp h.dj a b ha hb hab
    rw [List.getElem_set, List.getElem_set]
    by_cases ea : i = a
    · subst ea
      rw [if_pos rfl, if_neg (by omega)]
      exact (hd b _ (List.getElem?_eq_getElem hb) (by omega)).symm
    · rw [if_neg ea]
      by_cases eb : i = b
      · subst eb
        rw [if_pos rfl]
        exact hd a _ (List.getElem?_eq_getElem ha) (by omega)
      · rw [if_neg eb]
        exact hp
theorem POk.put {n : Nat} {ls : List Ls} (h : POk n ls) {x : Ls} (hx : x.ok n) (hd : ∀ (j : Nat) (l : Ls), ls[j]? = some l → Dj l x) {r : List Ls × Nat} (hr : putL ls x = some r) : POk n r.1 := by
  unfold putL at hr
  split at hr
  · obtain rfl := Option.some.inj hr
    exact h.set _ x hx fun j l hl _ => hd j l hl
  · split at hr
    · cases hr
    · obtain rfl := Option.some.inj hr
      have hl := h.len
      refine ⟨h.nle, by simp; omega, fun l hm => ?_, ?_⟩
      · simp at hm
        rcases hm with hm | rfl
        · exact h.ok l hm
        · exact hx
      · simp only [List.pairwise_append, List.pairwise_cons, List.mem_singleton]
        refine ⟨h.dj, ⟨by simp, List.Pairwise.nil⟩, fun a ha b hb => ?_⟩
        subst hb
        obtain ⟨j, hj⟩ := List.getElem?_of_mem ha
        exact hd j a hj
/-- What is put is there. -/
theorem putL_at {ls : List Ls} {x : Ls} {r : List Ls × Nat} (hr : putL ls x = some r) : r.1[r.2]? = some x ∧ ∀ (j : Nat) (l : Ls), ls[j]? = some l → l.fr = false → r.2 ≠ j ∧ r.1[j]? = some l := by
  unfold putL at hr
  split at hr
  · rename_i hlt
    obtain rfl := Option.some.inj hr
    obtain ⟨m, hm, hmf, _⟩ := ffree_lt hlt
    refine ⟨by simp [hlt], fun j l hj hf => ?_⟩
    have hne : ffree ls ≠ j := by
      intro e
      subst e
      rw [hm] at hj
      obtain rfl := Option.some.inj hj
      rw [hmf] at hf
      cases hf
    exact ⟨hne, by simp [List.getElem?_set, hne, hj]⟩
  · split at hr
    · cases hr
    · obtain rfl := Option.some.inj hr
      refine ⟨by simp, fun j l hj hf => ?_⟩
      have hlt := (List.getElem?_eq_some_iff.mp hj).1
      exact ⟨by simp; omega, by simp [List.getElem?_append_left hlt, hj]⟩

/-- A room that is lent is apart from all others. -/
theorem lendX_ok {n : Nat} {ls : List Ls} {room i : Nat} (h : POk n ls) (hr : 1 ≤ room) (hi : runAt n ls room = some i) : (lendX i room).ok n ∧ ∀ (j : Nat) (l : Ls), ls[j]? = some l → Dj l (lendX i room) := by
  obtain ⟨hin, hge, _⟩ := firstAt_is _ _ _ hi
  simp at hge
  have hle := runTo_le (cv ls) (i + 1)
  refine ⟨.inr ⟨rfl, hr, by show i + 1 - room + room ≤ n; omega, by show 0 ≤ room; omega⟩, fun j l hj => ?_⟩
  have hok := h.ok l (List.mem_of_getElem? hj)
  rcases hok with ⟨hf, _⟩ | ⟨hf, h1, h2, h3⟩
  · exact .inl hf
  · have hfree : ∀ q, i + 1 - room ≤ q → q < i + 1 → ¬ (l.st ≤ q ∧ q < l.st + l.rm) := by
      intro q hq1 hq2 hq3
      have e := runTo_free (cv ls) (i + 1) q (by omega) hq2
      unfold cv at e
      rw [List.any_eq_false] at e
      have e2 := e l (List.mem_of_getElem? hj)
      unfold cvl at e2
      simp [hf] at e2
      have := e2 hq3.1
      omega
    refine .inr (.inr ?_)
    show l.st + l.rm ≤ i + 1 - room ∨ i + 1 - room + room ≤ l.st
    rcases Nat.lt_or_ge (i + 1 - room) (l.st + l.rm) with h4 | h4
    · rcases Nat.lt_or_ge l.st (i + 1 - room + room) with h5 | h5
      · exfalso
        rcases Nat.le_total l.st (i + 1 - room) with h6 | h6
        · exact hfree (i + 1 - room) (by omega) (by omega) ⟨h6, h4⟩
        · exact hfree l.st h6 (by omega) ⟨by omega, by omega⟩
      · exact .inr h5
    · exact .inl h4
theorem lendP_ok {xs : List (Nat × Nat)} {ls : List Ls} {room : Nat} (h : POk xs.length ls) (hr : 1 ≤ room) {r : List (Nat × Nat) × List Ls × Nat} (e : lendP xs ls room = some r) : POk r.1.length r.2.1 ∧ r.1.length = xs.length := by
  unfold lendP at e
  cases hi : runAt xs.length ls room with
  | none => rw [hi] at e; cases e
  | some i =>
    rw [hi] at e
    cases hp : putL ls (lendX i room) with
    | none => simp [hp] at e
    | some q =>
      simp [hp] at e
      subst e
      obtain ⟨h1, h2⟩ := lendX_ok h hr hi
      exact ⟨by show POk (zeroed xs _ _).length q.1; rw [zeroed_len]; exact h.put h1 h2 hp, zeroed_len _ _ _⟩
theorem giveP_ok {xs : List (Nat × Nat)} {ls : List Ls} {id : Nat} (h : POk xs.length ls) {r : List (Nat × Nat) × List Ls} (e : giveP xs ls id = some r) : POk r.1.length r.2 ∧ r.1 = xs := by
  unfold giveP at e
  split at e
  · obtain rfl := Option.some.inj e
    exact ⟨h.set id _ (.inl ⟨rfl, rfl, rfl, rfl⟩) fun _ _ _ _ => .inr (.inl rfl), rfl⟩
  · cases e
theorem cutP_ok {xs : List (Nat × Nat)} {ls : List Ls} {id at' : Nat} (h : POk xs.length ls) {r : List (Nat × Nat) × List Ls × Nat} (e : cutP xs ls id at' = some r) : POk r.1.length r.2.1 ∧ r.1 = xs := by
  unfold cutP at e
  cases hl : ls[id]? with
  | none => rw [hl] at e; cases e
  | some l =>
    rw [hl] at e
    dsimp only at e
    split at e
    · rename_i hc
      obtain ⟨c1, c2, c3, c4⟩ := hc
      have hok := h.ok l (List.mem_of_getElem? hl)
      rcases hok with ⟨hf, _⟩ | ⟨_, h1, h2, h3⟩
      · rw [hf] at c1; cases c1
      · have hid := (List.getElem?_eq_some_iff.mp hl)
        have dj : ∀ j m, ls[j]? = some m → j ≠ id → Dj m l := by
          intro j m hm hne
          obtain ⟨hj, hj2⟩ := List.getElem?_eq_some_iff.mp hm
          obtain ⟨hi, hi2⟩ := hid
          rcases Nat.lt_or_ge j id with h | h'
          · have := List.pairwise_iff_getElem.mp ‹POk xs.length ls›.dj j id hj hi h
            rw [hj2, hi2] at this
            exact this
          · have := List.pairwise_iff_getElem.mp ‹POk xs.length ls›.dj id j hi hj (by omega)
            rw [hj2, hi2] at this
            exact this.symm
        have s1 : POk xs.length (ls.set id (cutA l at')) := by
          refine h.set id _ (.inr ⟨rfl, c2, by show l.st + at' ≤ _; omega, Nat.le_refl _⟩) fun j m hm hne => ?_
          rcases dj j m hm hne with d | d | d | d
          · exact .inl d
          · rw [c1] at d; cases d
          · exact .inr (.inr (.inl d))
          · exact .inr (.inr (.inr (by show l.st + at' ≤ m.st; omega)))
        cases hp : putL (ls.set id (cutA l at')) (cutB l at') with
        | none => simp [hp] at e
        | some q =>
          simp [hp] at e
          subst e
          refine ⟨s1.put (.inr ⟨rfl, by show 1 ≤ l.rm - at'; omega, by show l.st + at' + (l.rm - at') ≤ _; omega, by show l.ct - at' ≤ l.rm - at'; omega⟩) (fun j m hm => ?_) hp, rfl⟩
          rw [List.getElem?_set] at hm
          by_cases e : id = j
          · rw [if_pos e] at hm
            simp [hid.1, ← e] at hm
            subst hm
            exact .inr (.inr (.inl (Nat.le_refl _)))
          · rw [if_neg e] at hm
            rcases dj j m hm (by omega) with d | d | d | d
            · exact .inl d
            · rw [c1] at d; cases d
            · exact .inr (.inr (.inl (by show m.st + m.rm ≤ l.st + at'; omega)))
            · exact .inr (.inr (.inr (by show l.st + at' + (l.rm - at') ≤ m.st; omega)))
    · cases e
theorem appP_ok {xs : List (Nat × Nat)} {ls : List Ls} {id : Nat} {ys : List (Nat × Nat)} (h : POk xs.length ls) {r : List (Nat × Nat) × List Ls} (e : appP xs ls id ys = some r) : POk r.1.length r.2 ∧ r.1.length = xs.length := by
  unfold appP at e
  cases hl : ls[id]? with
  | none => rw [hl] at e; cases e
  | some l =>
    rw [hl] at e
    dsimp only at e
    split at e
    · rename_i hc
      obtain ⟨c1, c2⟩ := hc
      obtain rfl := Option.some.inj e
      have hok := h.ok l (List.mem_of_getElem? hl)
      rcases hok with ⟨hf, _⟩ | ⟨_, h1, h2, h3⟩
      · rw [hf] at c1; cases c1
      · refine ⟨?_, laid_len _ _ _⟩
        show POk (laid xs _ _).length _
        rw [laid_len]
        refine h.set id _ (.inr ⟨rfl, h1, h2, c2⟩) fun j m hm hne => ?_
        obtain ⟨hj, hj2⟩ := List.getElem?_eq_some_iff.mp hm
        obtain ⟨hi, hi2⟩ := List.getElem?_eq_some_iff.mp hl
        have d : Dj m l := by
          rcases Nat.lt_or_ge j id with h' | h'
          · have := List.pairwise_iff_getElem.mp h.dj j id hj hi h'
            rw [hj2, hi2] at this
            exact this
          · have := List.pairwise_iff_getElem.mp h.dj id j hi hj (by omega)
            rw [hj2, hi2] at this
            exact this.symm
        rcases d with d | d | d | d
        · exact .inl d
        · rw [c1] at d; cases d
        · exact .inr (.inr (.inl d))
        · exact .inr (.inr (.inr d))
    · cases e
end Go.Proofs.Ytopkehknaclhlaa

/- The reference: is a lease lent; a lease is put in the first free place. Conditions: the pool is valid. -/
namespace Go.Proofs.Ytopkehknaclhlaa
open Go Go.RowKit

set_option maxRecDepth 100000 in
set_option maxHeartbeats 4000000 in
theorem l3Lent_calls (w : World) (s v : Value) (xs : List (Nat × Nat)) (ls : List Ls) (id : Nat) (ho : OwnC w 0 s xs) (hv : OwnL w 0 v ls) (hp : POk xs.length ls) :
    Calls Try.prog 114 #[.agg #[s, v], .int .i64 (id : Int)] w (RVal w (.bool (lentB ls id))) := by
  obtain ⟨a, c, rfl⟩ := ho.form
  obtain ⟨a2, c2, rfl⟩ := hv.form
  have m16 := hp.len
  have A1 := (Chg.refl (fun _ => False) w).alloc (.cells #[.slice a xs.length c, .slice a2 ls.length c2] 67)
  have HT := hid (IsPoolS_calls _ _ _ xs ls (ho.chg A1 fun _ _ _ h => h) (hv.chg A1 fun _ _ _ h => h) hp)
  have HV := hid (hv.chg A1 fun _ _ _ h => h)
  have HB := hid (heap_new w (.cells #[.slice a xs.length c, .slice a2 ls.length c2] 67))
  have GA := hid A1
  have b0 : decide ((0 : Int) ≤ (id : Int)) = true := by simp
  clear A1 ho hv hp
  generalize xs.length = n at *
  by_cases hlt : id < ls.length
  · generalize hm : ls.length = m at *
    have HM := hid hm
    clear hm
    have b1 : decide ((id : Int) < (m : Int)) = true := by simp; omega
    go_enter Try.func114, Try.ntmps114
    go_wp2_with (go_at_call 55; refine HT.out.mono ?_; rintro e w2 ⟨rfl, hG⟩; have HB2 := hid (hG.heap HB.out (fun h => h)); have kB2 := cells_at HB2.out; obtain ⟨g, cc, cur, hv2, hg0, hg1, hgc, hgh, l, hlk, c0, c1, c2', c3⟩ := OwnL.lease (HV.out.chg hG fun _ _ _ h => h) HM.out hlt; simp at hv2; obtain ⟨rfl, rfl⟩ := hv2)
    go_ret
    exact ⟨by rw [lentB_some hlk]; rfl, GA.out.trans hG fun k hk e => e⟩
  · rw [lentB_none (by omega)]
    generalize hm : ls.length = m at *
    clear hm
    have b1 : decide ((id : Int) < (m : Int)) = false := by simp; omega
    go_enter Try.func114, Try.ntmps114
    go_wp2_with fail
    go_ret
    exact ⟨rfl, GA.out⟩
end Go.Proofs.Ytopkehknaclhlaa
