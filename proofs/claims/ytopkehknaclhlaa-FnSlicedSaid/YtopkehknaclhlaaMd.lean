/- Plain law of kinds of frames and their counts. No condition. -/
import Derived.Test.YtopkehknaclhlaaFb
import Derived.Test.YtopkehknaclhlaaFc
import Derived.Test.YtopkehknaclhlaaUt
namespace Go.Proofs.Ytopkehknaclhlaa
open Go Go.RowKit

/-- The first k frames are told: where their kinds were met first, and how many of each. -/
structure Cnt (fs : List Fr8) (k : Nat) (ps : List Nat) (cs : List Int) : Prop where
  len : ps.length = cs.length
  inc : ps.Pairwise (· < ·)
  lt : ∀ p ∈ ps, p < k
  first : ∀ p ∈ ps, ∀ j, j < p → eqFr (fs.getD j Z8) (fs.getD p Z8) = false
  all : ∀ j, j < k → eqFr (fs.getD j Z8) (fs.getD j Z8) = false ∨ ∃ p ∈ ps, eqFr (fs.getD p Z8) (fs.getD j Z8) = true
  sum : cs.sum = (k : Int)
  pos : ∀ c ∈ cs, 1 ≤ c ∧ c ≤ (k : Int)

theorem Cnt.nil (fs : List Fr8) : Cnt fs 0 [] [] := ⟨rfl, List.Pairwise.nil, by simp, by simp, fun j h => by omega, rfl, by simp⟩

theorem sum_set : ∀ (cs : List Int) (i : Nat) (h : i < cs.length), (cs.set i (cs[i] + 1)).sum = cs.sum + 1 := by
  intro cs
  induction cs with
  | nil => intro i h; simp at h
  | cons c cs ih =>
    intro i h
    cases i with
    | zero => simp; omega
    | succ i =>
      have e := ih i (by simpa using h)
      simp at e ⊢
      rw [e]
      omega

/-- A frame that was met. -/
theorem Cnt.old {fs : List Fr8} {k : Nat} {ps : List Nat} {cs : List Int} (h : Cnt fs k ps cs) {i : Nat} (hi : i < ps.length) (he : eqFr (fs.getD ps[i] Z8) (fs.getD k Z8) = true) :
    Cnt fs (k + 1) ps (cs.set i (cs[i]'(by rw [← h.len]; exact hi) + 1)) := by
  have hi2 : i < cs.length := by rw [← h.len]; exact hi
  refine ⟨by rw [List.length_set]; exact h.len, h.inc, fun p hp => Nat.lt_succ_of_lt (h.lt p hp), h.first, fun j hj => ?_, ?_, fun c hc => ?_⟩
  · rcases (by omega : j < k ∨ j = k) with h1 | rfl
    · exact h.all j h1
    · exact .inr ⟨ps[i], List.getElem_mem hi, he⟩
  · rw [sum_set cs i hi2, h.sum]; omega
  · rcases List.mem_or_eq_of_mem_set hc with h1 | rfl
    · have := h.pos c h1; omega
    · have := h.pos cs[i] (List.getElem_mem hi2); omega

/-- A new kind. -/
theorem Cnt.new {fs : List Fr8} {k : Nat} {ps : List Nat} {cs : List Int} (h : Cnt fs k ps cs) (hn : ∀ p ∈ ps, eqFr (fs.getD p Z8) (fs.getD k Z8) = false) : Cnt fs (k + 1) (ps ++ [k]) (cs ++ [1]) := by
  refine ⟨by simp [h.len], ?_, fun p hp => ?_, fun p hp j hj => ?_, fun j hj => ?_, ?_, fun c hc => ?_⟩
  · rw [List.pairwise_append]
    exact ⟨h.inc, List.pairwise_singleton _ _, fun p hp q hq => by obtain rfl : q = k := by simpa using hq
                                                                   exact h.lt p hp⟩
  · rcases List.mem_append.mp hp with h1 | h1
    · exact Nat.lt_succ_of_lt (h.lt p h1)
    · obtain rfl : p = k := by simpa using h1
      omega
  · rcases List.mem_append.mp hp with h1 | h1
    · exact h.first p h1 j hj
    · obtain rfl : p = k := by simpa using h1
      cases he : eqFr (fs.getD j Z8) (fs.getD p Z8)
      · rfl
      · exfalso
        rcases h.all j hj with h2 | ⟨q, hq, h2⟩
        · exact absurd (eqFr_trans he (eqFr_symm he)) (by rw [h2]; simp)
        · exact absurd (eqFr_trans h2 he) (by rw [hn q hq]; simp)
  · rcases (by omega : j < k ∨ j = k) with h1 | rfl
    · rcases h.all j h1 with h2 | ⟨q, hq, h2⟩
      · exact .inl h2
      · exact .inr ⟨q, List.mem_append_left _ hq, h2⟩
    · cases he : eqFr (fs.getD j Z8) (fs.getD j Z8)
      · exact .inl rfl
      · exact .inr ⟨j, by simp, he⟩
  · rw [List.sum_append, h.sum]; simp
  · rcases List.mem_append.mp hc with h1 | h1
    · have := h.pos c h1; omega
    · obtain rfl : c = 1 := by simpa using h1
      omega

/-- The kinds. -/
def kindsOf (fs : List Fr8) (ps : List Nat) : List Fr8 := ps.map fun p => fs.getD p Z8

theorem kinds_get (fs : List Fr8) (ps : List Nat) {i : Nat} (h : i < ps.length) : (kindsOf fs ps)[i]? = some (fs.getD ps[i] Z8) := by
  unfold kindsOf
  simp [h]

/-- Where a kind is found first: in the frames where it was met first, or nowhere. -/
theorem Cnt.find {fs : List Fr8} {ps : List Nat} {cs : List Int} (h : Cnt fs fs.length ps cs) {i : Nat} (hi : i < ps.length) {r : Int} (hr : IdxF fs (fs.getD ps[i] Z8) r) :
    (eqFr (fs.getD ps[i] Z8) (fs.getD ps[i] Z8) = true ∧ r = (ps[i] : Int)) ∨ (eqFr (fs.getD ps[i] Z8) (fs.getD ps[i] Z8) = false ∧ r = -1) := by
  have hp := h.lt ps[i] (List.getElem_mem hi)
  have hd : ∀ j (hj : j < fs.length), fs.getD j Z8 = fs[j] := fun j hj => by simp [hj]
  cases he : eqFr (fs.getD ps[i] Z8) (fs.getD ps[i] Z8)
  · refine .inr ⟨rfl, ?_⟩
    rcases hr with ⟨h1, _⟩ | ⟨j, hj, h1, h2, _⟩
    · exact h1
    · rw [eqFr_trans (eqFr_symm h2) h2] at he; cases he
  · refine .inl ⟨rfl, ?_⟩
    rcases hr with ⟨_, h1⟩ | ⟨j, hj, h1, h2, h3⟩
    · have := h1 _ (List.getElem_mem hp)
      rw [← hd _ hp, he] at this
      cases this
    · rw [h1]
      rcases Nat.lt_trichotomy j ps[i] with h4 | h4 | h4
      · have := h.first ps[i] (List.getElem_mem hi) j h4
        rw [hd j hj] at this
        rw [this] at h2
        cases h2
      · omega
      · have := h3 ps[i] h4
        rw [← hd _ hp, he] at this
        cases this

/-- Where a kind is found among the kinds. -/
theorem Cnt.self {fs : List Fr8} {ps : List Nat} {cs : List Int} (h : Cnt fs fs.length ps cs) {i : Nat} (hi : i < ps.length) (he : eqFr (fs.getD ps[i] Z8) (fs.getD ps[i] Z8) = true) {r : Int} (hr : IdxF (kindsOf fs ps) (fs.getD ps[i] Z8) r) : r = (i : Int) := by
  have hl : (kindsOf fs ps).length = ps.length := by simp [kindsOf]
  have hg : ∀ j (hj : j < ps.length), (kindsOf fs ps)[j]'(by omega) = fs.getD ps[j] Z8 := fun j hj => by
    have := kinds_get fs ps hj
    rw [List.getElem?_eq_getElem (by omega)] at this
    exact Option.some.inj this
  have hlt : ∀ j (hj : j < i), eqFr (fs.getD (ps[j]'(by omega)) Z8) (fs.getD ps[i] Z8) = false := fun j hj =>
    h.first ps[i] (List.getElem_mem hi) _ (List.pairwise_iff_getElem.mp h.inc j i (by omega) hi hj)
  rcases hr with ⟨_, h1⟩ | ⟨j, hj, h1, h2, h3⟩
  · have := h1 _ (List.getElem_mem (show i < (kindsOf fs ps).length by omega))
    rw [hg i hi, he] at this
    cases this
  · rw [h1]
    rcases Nat.lt_trichotomy j i with h4 | h4 | h4
    · rw [hg j (by omega), hlt j h4] at h2; cases h2
    · omega
    · have := h3 i h4
      rw [hg i hi, he] at this
      cases this

theorem sum_take_le : ∀ (cs : List Int) (i : Nat), (∀ c ∈ cs, 1 ≤ c) → 0 ≤ (cs.take i).sum ∧ (cs.take i).sum ≤ cs.sum := by
  intro cs
  induction cs with
  | nil => intro i _; simp
  | cons c cs ih =>
    intro i h
    have hc := h c (by simp)
    cases i with
    | zero =>
      have e := ih cs.length (fun c hc => h c (by simp [hc]))
      rw [List.take_length] at e
      simp
      omega
    | succ i =>
      have e := ih i (fun c hc => h c (by simp [hc]))
      simp
      omega
end Go.Proofs.Ytopkehknaclhlaa

/- Slices that read as a list wherever they stand: copies of them, appending them. Conditions: at most 2^20 elements. -/
namespace Go.Proofs.Ytopkehknaclhlaa
open Go Go.RowKit

/-- A slice that reads as the list (nil, or anywhere in a block). -/
def RdC (w : World) (v : Value) (ys : List (Nat × Nat)) : Prop :=
  (v = .slice none 0 0 ∧ ys = []) ∨ ∃ g off C, v = .slice (some ⟨g, off, none⟩) ys.length C ∧ g < w.heap.size ∧ ys.length ≤ C ∧ C ≤ maxLen ∧ ∀ j (hj : j < ys.length), w.cell? ⟨g, off + j, none⟩ = some (cx ys[j])

theorem RdC.chg {S : Nat → Prop} {w w' : World} {v : Value} {ys : List (Nat × Nat)} (h : RdC w v ys) (G : Chg S w w') (hS : ∀ g, some g = v.ownBlock → ¬ S g) : RdC w' v ys := by
  rcases h with h | ⟨g, off, C, rfl, hg, h1, h2, hc⟩
  · exact .inl h
  · exact .inr ⟨g, off, C, rfl, Nat.lt_of_lt_of_le hg G.size, h1, h2, fun j hj => G.cell (hc j hj) (hS g rfl)⟩
theorem RdC.of_own {w : World} {base : Nat} {v : Value} {xs : List (Nat × Nat)} (h : OwnC w base v xs) : RdC w v xs := by
  rcases h.block with ⟨rfl, rfl⟩ | ⟨g, cap, cur, rfl, hb, hh, hc, hm, hcell⟩
  · exact .inl ⟨rfl, rfl⟩
  · exact .inr ⟨g, 0, cap, rfl, heap_lt hh, hc, hm, fun j hj => by rw [Nat.zero_add, cell_at hh, hcell j hj]⟩
theorem RdC.form {w : World} {v : Value} {ys : List (Nat × Nat)} (h : RdC w v ys) : ∃ a c, v = .slice a ys.length c := by
  rcases h with ⟨rfl, rfl⟩ | ⟨g, off, C, rfl, _⟩ <;> exact ⟨_, _, rfl⟩
theorem RdC.cells {w : World} {g off m C : Nat} {ys : List (Nat × Nat)} (h : RdC w (.slice (some ⟨g, off, none⟩) m C) ys) : m = ys.length ∧ ∀ j u, (ys.map cx)[j]? = some u → w.cell? ((⟨g, off, none⟩ : Addr).add j) = some u := by
  rcases h with ⟨h, _⟩ | ⟨g', off', C', hv, hg, h1, h2, hc⟩
  · simp at h
  · simp at hv
    obtain ⟨⟨rfl, rfl⟩, rfl, rfl⟩ := hv
    refine ⟨rfl, fun j u hu => ?_⟩
    rw [Addr.add_lit]
    have hj : j < ys.length := by
      rcases Nat.lt_or_ge j ys.length with h | h
      · exact h
      · simp [List.getElem?_eq_none (l := ys.map cx) (by simpa using h)] at hu
    rw [hc j hj]
    simpa [hj] using hu

/-- A list that reads so is appended to an owned one. -/
theorem wpList_appRd {ops : Array Oper} {rest : List Oper} {o : Oper} {a : Act} {Q : Exit → Act → World → Prop} (w : World) (hgd : o.guard = none) (s x : Operand)
    (ho : o.op = .call { callee := .builtin .append, args := #[s, x], argTypes := #[25, 25] })
    (base : Nat) (v u : Value) (xs ys : List (Nat × Nat)) (hs : a.eval s = v) (hown : OwnC w base v xs) (hx : a.eval x = u) (hu : RdC w u ys)
    (hlen : xs.length + ys.length ≤ 1048576) (hbase : base ≤ w.heap.size)
    (h : ∀ a' c' w', OwnC w' base (.slice a' (xs.length + ys.length) c') (xs ++ ys) → Chg (fun n => some n = v.ownBlock) w w' → wpList Try.prog ops Q rest (a.put o.dst (.slice a' (xs.length + ys.length) c')) w') :
    wpList Try.prog ops Q (o :: rest) a w := by
  obtain ⟨i, hi, hz, hsz, hby⟩ := info_parts info33
  rcases hu with ⟨rfl, rfl⟩ | ⟨g, off, C, rfl, hg, h1, h2, hc⟩
  · refine wpList_plain hgd fun K hK' => ?_
    have hrun := run_append_owned_none (P := Try.prog) w base 25 o.type 33 i 1 Try.underlying25 hi v _ _ hown
    obtain ⟨a', c', hv⟩ := hown.form
    unfold Oper.wp
    simp [execOp, ho, resolve, invoke, builtin, hs, hx, hrun, Result.andThen]
    refine hK' _ _ ?_
    have h2 := h a' c' w (by simpa [hv] using hown) (Chg.refl _ w)
    simpa [hv] using h2
  · have hu' : RdC w (.slice (some ⟨g, off, none⟩) ys.length C) ys := .inr ⟨g, off, C, rfl, hg, h1, h2, hc⟩
    refine wpList_append_own w hgd s x 25 ho base 33 i (.complex .f32 0 0) 1 8 Try.underlying25 hi hz hsz hby rfl (by decide) v xs.length (xs.map cx) hs hown ⟨g, off, none⟩ ys.length C (ys.map cx) hx (by simp) hu'.cells.2 (cx_one ys) (by unfold maxLen; omega) (by omega) hbase ?_
    intro v' w' hown' hgrow _
    have hown2 : OwnC w' base v' (xs ++ ys) := by simpa [OwnC] using hown'
    obtain ⟨a', c', rfl⟩ := hown2.form
    simp only [List.length_append] at hown2 ⊢
    exact h a' c' w' hown2 (Chg.of_grown hgrow fun n hn _ => hn)

/-- A copy comes back: new blocks alone. -/
def RCl (w : World) (ys : List (Nat × Nat)) (e : Ending) (w' : World) : Prop :=
  ∃ a' c', e = .returned (.slice a' ys.length c') ∧ OwnC w' w.heap.size (.slice a' ys.length c') ys ∧ Chg (fun _ => False) w w'

set_option maxHeartbeats 400000 in
theorem CloneRd_calls (w : World) (v : Value) (ys : List (Nat × Nat)) (hx : ys.length ≤ 1048576) (hr : RdC w v ys) : Calls Try.prog 97 #[v] w (RCl w ys) := by
  have hnil := fun (w : World) (a : Option Addr) (l c : Nat) => Lib.run_eql_slice_nil (P := Try.prog) w 25 33 a l c 0 0 Try.underlying25
  rcases hr with ⟨rfl, rfl⟩ | ⟨g, off, C, rfl, hg, h1, h2, hc⟩
  · go_enter Try.func97, Try.ntmps97
    go_wp2
    go_ret
    exact ⟨none, 0, rfl, OwnC.nil _ _, Chg.refl _ w⟩
  · have hR : RdC (w.alloc (.cells #[] 33)) (.slice (some ⟨g, off, none⟩) ys.length C) ys := RdC.chg (.inr ⟨g, off, C, rfl, hg, h1, h2, hc⟩) ((Chg.refl (fun _ => False) w).alloc _) (fun _ _ h => h)
    have HR := hid hR
    have HE := hid (OwnC.lit w [] 33 rfl (by simp) (Nat.le_refl w.heap.size) #[] rfl)
    clear hR hc
    go_enter Try.func97, Try.ntmps97
    go_wp2_with (at_builtin; refine wpList_appRd _ rfl _ _ rfl w.heap.size _ _ [] ys rfl HE.out rfl HR.out (by simp; omega) (by simp) ?_)
    intro a' c' w' hO hG
    have hO2 : OwnC w' w.heap.size (.slice a' ys.length c') ys := by simpa using hO
    try simp only [List.length_nil, Nat.zero_add]
    go_wp2
    go_ret
    exact ⟨a', c', rfl, hO2, ((Chg.refl (fun n => n = w.heap.size) w).alloc _).trans hG (fun n _ h => by simpa [Value.ownBlock] using h) |>.trans (Chg.refl (fun _ => False) w') (fun _ _ h => h.elim) |> fun g => (Chg.refl (fun _ => False) w).trans g (fun n hn e => by omega)⟩
end Go.Proofs.Ytopkehknaclhlaa
