/- Lists whose elements are several cells each: owned rows, appending to them, reading them. Plain facts; conditions: as each says. -/
import Derived.Test.YtopkehknaclhlaaUt
namespace Go.Proofs.Ytopkehknaclhlaa
open Go Go.RowKit

/-- How an element lies in memory: its type, its cells. -/
structure Enc (α : Type) where
  T : TypeId
  E : TypeId
  k : Nat
  bytes : Nat
  cells : α → List Value
  len : ∀ x, (cells x).length = k
  one : ∀ x, ∀ u ∈ cells x, u.oneCell' = true
  pos : 0 < k
  small : bytes ≤ 4096
  under : Try.prog.underlying T = some (.slice E)
  info : ∃ i z, Try.prog.info? E = some i ∧ i.zero = some z ∧ i.size = k ∧ i.bytes = bytes ∧ z.cells.size = k

variable {α : Type}

/-- A slice of a block of its own (or nil) that reads as the list. -/
def OwnR (e : Enc α) (w : World) (base : Nat) (v : Value) (xs : List α) : Prop := w.ownsRow base e.E e.k v xs.length (xs.flatMap e.cells)

theorem flat_len (e : Enc α) (xs : List α) : (xs.flatMap e.cells).length = xs.length * e.k := by
  induction xs with
  | nil => simp
  | cons x xs ih => rw [List.flatMap_cons, List.length_append, ih, e.len, List.length_cons, Nat.succ_mul, Nat.add_comm]

theorem flat_get (e : Enc α) : ∀ (xs : List α) (i j : Nat) (hi : i < xs.length), j < e.k → (xs.flatMap e.cells)[i * e.k + j]? = (e.cells xs[i])[j]? := by
  intro xs
  induction xs with
  | nil => intro i j hi; simp at hi
  | cons x xs ih =>
    intro i j hi hj
    rw [List.flatMap_cons]
    cases i with
    | zero =>
      rw [List.getElem?_append_left (by rw [e.len]; omega)]
      simp
    | succ i =>
      rw [List.getElem?_append_right (by rw [e.len, Nat.succ_mul]; omega), e.len]
      have h := ih i j (by simpa using hi) hj
      rw [show (i + 1) * e.k + j - e.k = i * e.k + j by rw [Nat.succ_mul]; omega, h]
      simp

namespace OwnR
variable {e : Enc α} {S : Nat → Prop} {w w' : World} {base b : Nat} {v : Value} {xs : List α}

theorem chgN (h : OwnR e w base v xs) (G : Chg S w w') (hS : ∀ g, some g = v.ownBlock → ¬ S g) : OwnR e w' base v xs := by
  obtain ⟨h1, h2⟩ := h
  refine ⟨h1, ?_⟩
  rcases h2 with h2 | ⟨g, cap, cur, hv, hg, hh, r⟩
  · exact .inl h2
  · exact .inr ⟨g, cap, cur, hv, hg, G.heap hh (hS g (by rw [hv]; rfl)), r⟩
theorem own_lt (h : OwnR e w base v xs) {n : Nat} (hn : some n = v.ownBlock) : base ≤ n ∧ n < w.heap.size := by
  rcases h.2 with ⟨rfl, _⟩ | ⟨g, cap, cur, rfl, hg, hh, _⟩
  · simp [Value.ownBlock] at hn
  · simp [Value.ownBlock] at hn
    subst hn
    exact ⟨hg, heap_lt hh⟩
theorem chg (h : OwnR e w base v xs) (g : Chg S w w') (hS : ∀ n, base ≤ n → n < w.heap.size → ¬ S n) : OwnR e w' base v xs :=
  h.chgN g fun n hn => hS n (h.own_lt hn).1 (h.own_lt hn).2
theorem nil (e : Enc α) (w : World) (base : Nat) : OwnR e w base (.slice none 0 0) [] := World.ownsRow_nil w base _ _
theorem mono (h : OwnR e w b v xs) (hb : base ≤ b) : OwnR e w base v xs := by
  obtain ⟨h1, h2⟩ := h
  refine ⟨h1, ?_⟩
  rcases h2 with h2 | ⟨g, cap, cur, hv, hg, r⟩
  · exact .inl h2
  · exact .inr ⟨g, cap, cur, hv, Nat.le_trans hb hg, r⟩
theorem form (h : OwnR e w base v xs) : ∃ a c, v = .slice a xs.length c := by
  rcases h.2 with ⟨rfl, hn⟩ | ⟨g, cap, cur, rfl, _⟩
  · exact ⟨none, 0, by rw [hn]⟩
  · exact ⟨_, _, rfl⟩
/-- The block and its cells. -/
theorem row (h : OwnR e w base v xs) {n : Nat} (hl : xs.length = n) (hn : 0 < n) : ∃ g c cur, v = .slice (some ⟨g, 0, none⟩) n c ∧ base ≤ g ∧ g < w.heap.size ∧ n ≤ c ∧ w.heap[g]? = some (.cells cur e.E (0, 0)) ∧ cur.size = c * e.k ∧
    ∀ i j, (hi : i < n) → j < e.k → cur[i * e.k + j]? = (e.cells (xs[i]'(by omega)))[j]? := by
  subst hl
  rcases h.2 with ⟨rfl, h0⟩ | ⟨g, cap, cur, rfl, hg, hh, hc, hm, hs, ht⟩
  · omega
  · refine ⟨g, cap, cur, rfl, hg, heap_lt hh, hc, hh, hs, fun i j hi hj => ?_⟩
    have hij : i * e.k + j < xs.length * e.k := by
      have : (i + 1) * e.k ≤ xs.length * e.k := Nat.mul_le_mul_right _ hi
      rw [Nat.succ_mul] at this
      omega
    have h1 := congrArg (fun l => l[i * e.k + j]?) ht
    rw [List.getElem?_take_of_lt hij, flat_get e xs i j hi hj] at h1
    rw [← h1]
    simp
theorem lit (e : Enc α) (w : World) (xs : List α) (hn : xs.length ≤ 1048576) {base : Nat} (hb : base ≤ w.heap.size) (cs : Array Value) (T : TypeId) (hT : T = e.E) (hcs : cs.toList = xs.flatMap e.cells) :
    OwnR e (w.alloc (.cells cs T)) base (.slice (some ⟨w.heap.size, 0, none⟩) xs.length xs.length) xs := by
  subst hT
  have h := World.ownsRow_lit (base := base) (e := e.E) (size := e.k) w cs xs.length hb (by unfold maxLen; omega) (by have := congrArg List.length hcs; rw [flat_len] at this; simpa using this)
  rw [hcs] at h
  exact h
/-- The cells of a list that reads so. -/
theorem cellsOf {g m c : Nat} (h : OwnR e w b (.slice (some ⟨g, 0, none⟩) m c) xs) : m = xs.length ∧ ∀ j u, (xs.flatMap e.cells)[j]? = some u → w.cell? ((⟨g, 0, none⟩ : Addr).add j) = some u := by
  rcases h.2 with ⟨h0, _⟩ | ⟨g', cap, cur, hv, hg, hh, hc, hm, hs, ht⟩
  · simp at h0
  · simp at hv
    obtain ⟨rfl, rfl, rfl⟩ := hv
    refine ⟨rfl, fun j u hu => ?_⟩
    rw [Addr.add_lit, Nat.zero_add, cell_at hh]
    have hj : j < xs.length * e.k := by
      rcases Nat.lt_or_ge j (xs.length * e.k) with h | h
      · exact h
      · rw [List.getElem?_eq_none (by rw [flat_len]; exact h)] at hu; cases hu
    have h1 := congrArg (fun l => l[j]?) ht
    rw [List.getElem?_take_of_lt hj, hu] at h1
    rw [← h1, Array.getElem?_toList]
end OwnR

/-- One list is appended to another. -/
theorem wpList_appR (e : Enc α) {ops : Array Oper} {rest : List Oper} {o : Oper} {a : Act} {Q : Exit → Act → World → Prop} (w : World) (hgd : o.guard = none) (s x : Operand)
    (ho : o.op = .call { callee := .builtin .append, args := #[s, x], argTypes := #[e.T, e.T] })
    (base : Nat) (v u : Value) (xs ys : List α) (hs : a.eval s = v) (hown : OwnR e w base v xs) (hx : a.eval x = u) (hu : OwnR e w 0 u ys)
    (hlen : xs.length + ys.length ≤ 1048576) (hbase : base ≤ w.heap.size)
    (h : ∀ a' c' w', OwnR e w' base (.slice a' (xs.length + ys.length) c') (xs ++ ys) → Chg (fun n => some n = v.ownBlock) w w' → wpList Try.prog ops Q rest (a.put o.dst (.slice a' (xs.length + ys.length) c')) w') :
    wpList Try.prog ops Q (o :: rest) a w := by
  obtain ⟨i, z, hi, hz, hsz, hby, hzs⟩ := e.info
  have hb4 := e.small
  obtain ⟨au, cu, hfu⟩ := hu.form
  subst hfu
  rcases hu.2 with ⟨hu0, hn0⟩ | ⟨g, cap, cur, hv, _⟩
  · have hy : ys = [] := List.eq_nil_of_length_eq_zero hn0
    subst hy
    simp at hu0
    obtain ⟨rfl, rfl⟩ := hu0
    refine wpList_plain hgd fun K hK' => ?_
    have hrun := run_append_owned_none (P := Try.prog) w base e.T o.type e.E i e.k e.under hi v _ _ hown
    obtain ⟨a', c', hv⟩ := hown.form
    unfold Oper.wp
    have hx' : a.eval x = .slice none 0 0 := hx
    simp [execOp, ho, resolve, invoke, builtin, hs, hx', hrun, Result.andThen]
    refine hK' _ _ ?_
    have h2 := h a' c' w (by simpa [hv] using hown) (Chg.refl _ w)
    simpa [hv] using h2
  · simp at hv
    obtain ⟨rfl, rfl⟩ := hv
    have hmul : (xs.length + ys.length) * e.bytes ≤ 1048576 * 4096 := Nat.mul_le_mul hlen hb4
    refine wpList_append_own w hgd s x e.T ho base e.E i z e.k e.bytes e.under hi hz hsz hby hzs e.pos v xs.length (xs.flatMap e.cells) hs hown ⟨g, 0, none⟩ ys.length cu (ys.flatMap e.cells) hx (flat_len e ys) hu.cellsOf.2
      (fun q hq => by obtain ⟨y, _, hy⟩ := List.mem_flatMap.1 hq; exact e.one y q hy) (by unfold maxLen; omega) (by omega) hbase ?_
    intro v' w' hown' hgrow _
    have hown2 : OwnR e w' base v' (xs ++ ys) := by
      unfold OwnR
      rw [List.length_append, List.flatMap_append]
      exact hown'
    obtain ⟨a', c', rfl⟩ := hown2.form
    simp only [List.length_append] at hown2 ⊢
    exact h a' c' w' hown2 (Chg.of_grown hgrow fun n hn _ => hn)
end Go.Proofs.Ytopkehknaclhlaa
