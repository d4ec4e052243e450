/- What stays as it was: lists that are owned, bytes, a row of eleven cells stored. Plain facts, no condition. -/
import Derived.Test.YtopkehknaclhlaaSm
import Derived.Test.YtopkehknaclhlaaFr
import Derived.Test.YtopkehknaclhlaaMa
namespace Go.Proofs.Ytopkehknaclhlaa
open Go Go.RowKit

theorem OwnC.chgN {S : Nat → Prop} {w w' : World} {base : Nat} {v : Value} {xs : List (Nat × Nat)} (h : OwnC w base v xs) (G : Chg S w w') (hS : ∀ g, some g = v.ownBlock → ¬ S g) : OwnC w' base v xs := by
  obtain ⟨h1, h2⟩ := h
  refine ⟨h1, ?_⟩
  rcases h2 with h2 | ⟨g, cap, cur, hv, hg, hh, r⟩
  · exact .inl h2
  · exact .inr ⟨g, cap, cur, hv, hg, G.heap hh (hS g (by rw [hv]; rfl)), r⟩

theorem chg_row11 (w : World) (b : Nat) (v0 v1 v2 v3 v4 v5 v6 v7 v8 v9 v10 : Value) :
    Chg (fun k => k = b) w (((((((((((w.setCell ⟨b, 0, none⟩ v0).setCell ⟨b, 1, none⟩ v1).setCell ⟨b, 2, none⟩ v2).setCell ⟨b, 3, none⟩ v3).setCell ⟨b, 4, none⟩ v4).setCell ⟨b, 5, none⟩ v5).setCell ⟨b, 6, none⟩ v6).setCell ⟨b, 7, none⟩ v7).setCell ⟨b, 8, none⟩ v8).setCell ⟨b, 9, none⟩ v9).setCell ⟨b, 10, none⟩ v10) := by
  repeat (first | (with_reducible exact Chg.refl _ _) | (with_reducible refine Chg.setCell ?_ ?_ _; rotate_left; exact .inl rfl))

theorem Bytes.up {w w' : World} {B : Nat} {a : Option Addr} {len cap : Nat} (h : Bytes w B a len cap) (hB : B ≤ w'.heap.size) {S : Nat → Prop} (g : Chg S w w') (hS : ∀ n, n < B → ¬ S n) : Bytes w' w'.heap.size a len cap := by
  obtain ⟨h1, h2, h3⟩ := h.chg g hS
  exact ⟨h1, h2, fun k hk => by
    obtain ⟨b, off, z, h4, h5, h6⟩ := h3 k hk
    exact ⟨b, off, z, h4, by omega, h6⟩⟩
end Go.Proofs.Ytopkehknaclhlaa

/- Lists whose elements are several cells each: owned rows, appending to them, reading them. Plain facts; conditions: as each says. -/
namespace Go.Proofs.Ytopkehknaclhlaa
open Go Go.RowKit

/-- How an element lies in memory: its type, its cells. -/
structure Enc (α : Type) where
  T : TypeId
  E : TypeId
  k : Nat
  bytes : Nat
  cells : α → List Value
  len : ∀ x, (cells x).length = k
  one : ∀ x, ∀ u ∈ cells x, u.oneCell' = true
  pos : 0 < k
  small : bytes ≤ 4096
  under : Try.prog.underlying T = some (.slice E)
  info : ∃ i z, Try.prog.info? E = some i ∧ i.zero = some z ∧ i.size = k ∧ i.bytes = bytes ∧ z.cells.size = k

variable {α : Type}

/-- A slice of a block of its own (or nil) that reads as the list. -/
def OwnR (e : Enc α) (w : World) (base : Nat) (v : Value) (xs : List α) : Prop := w.ownsRow base e.E e.k v xs.length (xs.flatMap e.cells)

theorem flat_len (e : Enc α) (xs : List α) : (xs.flatMap e.cells).length = xs.length * e.k := by
  induction xs with
  | nil => simp
  | cons x xs ih => rw [List.flatMap_cons, List.length_append, ih, e.len, List.length_cons, Nat.succ_mul, Nat.add_comm]

theorem flat_get (e : Enc α) : ∀ (xs : List α) (i j : Nat) (hi : i < xs.length), j < e.k → (xs.flatMap e.cells)[i * e.k + j]? = (e.cells xs[i])[j]? := by
  intro xs
  induction xs with
  | nil => intro i j hi; simp at hi
  | cons x xs ih =>
    intro i j hi hj
    rw [List.flatMap_cons]
    cases i with
    | zero =>
      rw [List.getElem?_append_left (by rw [e.len]; omega)]
      simp
    | succ i =>
      rw [List.getElem?_append_right (by rw [e.len, Nat.succ_mul]; omega), e.len]
      have h := ih i j (by simpa using hi) hj
      rw [show (i + 1) * e.k + j - e.k = i * e.k + j by rw [Nat.succ_mul]; omega, h]
      simp

namespace OwnR
variable {e : Enc α} {S : Nat → Prop} {w w' : World} {base b : Nat} {v : Value} {xs : List α}

theorem chgN (h : OwnR e w base v xs) (G : Chg S w w') (hS : ∀ g, some g = v.ownBlock → ¬ S g) : OwnR e w' base v xs := by
  obtain ⟨h1, h2⟩ := h
  refine ⟨h1, ?_⟩
  rcases h2 with h2 | ⟨g, cap, cur, hv, hg, hh, r⟩
  · exact .inl h2
  · exact .inr ⟨g, cap, cur, hv, hg, G.heap hh (hS g (by rw [hv]; rfl)), r⟩
theorem own_lt (h : OwnR e w base v xs) {n : Nat} (hn : some n = v.ownBlock) : base ≤ n ∧ n < w.heap.size := by
  rcases h.2 with ⟨rfl, _⟩ | ⟨g, cap, cur, rfl, hg, hh, _⟩
  · simp [Value.ownBlock] at hn
  · simp [Value.ownBlock] at hn
    subst hn
    exact ⟨hg, heap_lt hh⟩
theorem chg (h : OwnR e w base v xs) (g : Chg S w w') (hS : ∀ n, base ≤ n → n < w.heap.size → ¬ S n) : OwnR e w' base v xs :=
  h.chgN g fun n hn => hS n (h.own_lt hn).1 (h.own_lt hn).2
theorem nil (e : Enc α) (w : World) (base : Nat) : OwnR e w base (.slice none 0 0) [] := World.ownsRow_nil w base _ _
theorem mono (h : OwnR e w b v xs) (hb : base ≤ b) : OwnR e w base v xs := by
  obtain ⟨h1, h2⟩ := h
  refine ⟨h1, ?_⟩
  rcases h2 with h2 | ⟨g, cap, cur, hv, hg, r⟩
  · exact .inl h2
  · exact .inr ⟨g, cap, cur, hv, Nat.le_trans hb hg, r⟩
theorem form (h : OwnR e w base v xs) : ∃ a c, v = .slice a xs.length c := by
  rcases h.2 with ⟨rfl, hn⟩ | ⟨g, cap, cur, rfl, _⟩
  · exact ⟨none, 0, by rw [hn]⟩
  · exact ⟨_, _, rfl⟩
/-- The block and its cells. -/
theorem row (h : OwnR e w base v xs) {n : Nat} (hl : xs.length = n) (hn : 0 < n) : ∃ g c cur, v = .slice (some ⟨g, 0, none⟩) n c ∧ base ≤ g ∧ g < w.heap.size ∧ n ≤ c ∧ w.heap[g]? = some (.cells cur e.E (0, 0)) ∧ cur.size = c * e.k ∧
    ∀ i j, (hi : i < n) → j < e.k → cur[i * e.k + j]? = (e.cells (xs[i]'(by omega)))[j]? := by
  subst hl
  rcases h.2 with ⟨rfl, h0⟩ | ⟨g, cap, cur, rfl, hg, hh, hc, hm, hs, ht⟩
  · omega
  · refine ⟨g, cap, cur, rfl, hg, heap_lt hh, hc, hh, hs, fun i j hi hj => ?_⟩
    have hij : i * e.k + j < xs.length * e.k := by
      have : (i + 1) * e.k ≤ xs.length * e.k := Nat.mul_le_mul_right _ hi
      rw [Nat.succ_mul] at this
      omega
    have h1 := congrArg (fun l => l[i * e.k + j]?) ht
    rw [List.getElem?_take_of_lt hij, flat_get e xs i j hi hj] at h1
    rw [← h1]
    simp
theorem lit (e : Enc α) (w : World) (xs : List α) (hn : xs.length ≤ 1048576) {base : Nat} (hb : base ≤ w.heap.size) (cs : Array Value) (T : TypeId) (hT : T = e.E) (hcs : cs.toList = xs.flatMap e.cells) :
    OwnR e (w.alloc (.cells cs T)) base (.slice (some ⟨w.heap.size, 0, none⟩) xs.length xs.length) xs := by
  subst hT
  have h := World.ownsRow_lit (base := base) (e := e.E) (size := e.k) w cs xs.length hb (by unfold maxLen; omega) (by have := congrArg List.length hcs; rw [flat_len] at this; simpa using this)
  rw [hcs] at h
  exact h
/-- The cells of a list that reads so. -/
theorem cellsOf {g m c : Nat} (h : OwnR e w b (.slice (some ⟨g, 0, none⟩) m c) xs) : m = xs.length ∧ ∀ j u, (xs.flatMap e.cells)[j]? = some u → w.cell? ((⟨g, 0, none⟩ : Addr).add j) = some u := by
  rcases h.2 with ⟨h0, _⟩ | ⟨g', cap, cur, hv, hg, hh, hc, hm, hs, ht⟩
  · simp at h0
  · simp at hv
    obtain ⟨rfl, rfl, rfl⟩ := hv
    refine ⟨rfl, fun j u hu => ?_⟩
    rw [Addr.add_lit, Nat.zero_add, cell_at hh]
    have hj : j < xs.length * e.k := by
      rcases Nat.lt_or_ge j (xs.length * e.k) with h | h
      · exact h
      · rw [List.getElem?_eq_none (by rw [flat_len]; exact h)] at hu; cases hu
    have h1 := congrArg (fun l => l[j]?) ht
    rw [List.getElem?_take_of_lt hj, hu] at h1
    rw [← h1, Array.getElem?_toList]
end OwnR

/-- One list is appended to another. -/
theorem wpList_appR (e : Enc α) {ops : Array Oper} {rest : List Oper} {o : Oper} {a : Act} {Q : Exit → Act → World → Prop} (w : World) (hgd : o.guard = none) (s x : Operand)
    (ho : o.op = .call { callee := .builtin .append, args := #[s, x], argTypes := #[e.T, e.T] })
    (base : Nat) (v u : Value) (xs ys : List α) (hs : a.eval s = v) (hown : OwnR e w base v xs) (hx : a.eval x = u) (hu : OwnR e w 0 u ys)
    (hlen : xs.length + ys.length ≤ 1048576) (hbase : base ≤ w.heap.size)
    (h : ∀ a' c' w', OwnR e w' base (.slice a' (xs.length + ys.length) c') (xs ++ ys) → Chg (fun n => some n = v.ownBlock) w w' → wpList Try.prog ops Q rest (a.put o.dst (.slice a' (xs.length + ys.length) c')) w') :
    wpList Try.prog ops Q (o :: rest) a w := by
  obtain ⟨i, z, hi, hz, hsz, hby, hzs⟩ := e.info
  have hb4 := e.small
  obtain ⟨au, cu, hfu⟩ := hu.form
  subst hfu
  rcases hu.2 with ⟨hu0, hn0⟩ | ⟨g, cap, cur, hv, _⟩
  · have hy : ys = [] := List.eq_nil_of_length_eq_zero hn0
    subst hy
    simp at hu0
    obtain ⟨rfl, rfl⟩ := hu0
    refine wpList_plain hgd fun K hK' => ?_
    have hrun := run_append_owned_none (P := Try.prog) w base e.T o.type e.E i e.k e.under hi v _ _ hown
    obtain ⟨a', c', hv⟩ := hown.form
    unfold Oper.wp
    have hx' : a.eval x = .slice none 0 0 := hx
    simp [execOp, ho, resolve, invoke, builtin, hs, hx', hrun, Result.andThen]
    refine hK' _ _ ?_
    have h2 := h a' c' w (by simpa [hv] using hown) (Chg.refl _ w)
    simpa [hv] using h2
  · simp at hv
    obtain ⟨rfl, rfl⟩ := hv
    have hmul : (xs.length + ys.length) * e.bytes ≤ 1048576 * 4096 := Nat.mul_le_mul hlen hb4
    refine wpList_append_own w hgd s x e.T ho base e.E i z e.k e.bytes e.under hi hz hsz hby hzs e.pos v xs.length (xs.flatMap e.cells) hs hown ⟨g, 0, none⟩ ys.length cu (ys.flatMap e.cells) hx (flat_len e ys) hu.cellsOf.2
      (fun q hq => by obtain ⟨y, _, hy⟩ := List.mem_flatMap.1 hq; exact e.one y q hy) (by unfold maxLen; omega) (by omega) hbase ?_
    intro v' w' hown' hgrow _
    have hown2 : OwnR e w' base v' (xs ++ ys) := by
      unfold OwnR
      rw [List.length_append, List.flatMap_append]
      exact hown'
    obtain ⟨a', c', rfl⟩ := hown2.form
    simp only [List.length_append] at hown2 ⊢
    exact h a' c' w' hown2 (Chg.of_grown hgrow fun n hn _ => hn)
end Go.Proofs.Ytopkehknaclhlaa

/- Single precision numbers are ordered as the keys of their words are. No condition but that neither is a NaN. -/
namespace Go.Proofs.Ytopkehknaclhlaa
open Go Ieee

/-- A word's rung with its sign. -/
def key (x : Nat) : Int := if x / 2147483648 % 2 = 1 then -((x % 2147483648 : Nat) : Int) else ((x % 2147483648 : Nat) : Int)

/-- The magnitude of a rung, in units of the least number. -/
def mag (r : Nat) : Nat := if r < 8388608 then r else (8388608 + r % 8388608) * 2 ^ (r / 8388608 - 1)

theorem mag_lt {r s : Nat} (h : r < s) : mag r < mag s := by
  unfold mag
  by_cases h1 : s < 8388608
  · rw [if_pos (by omega), if_pos h1]; exact h
  · rw [if_neg h1]
    have p1 : 8388608 + s % 8388608 ≤ (8388608 + s % 8388608) * 2 ^ (s / 8388608 - 1) := Nat.le_mul_of_pos_right _ (Nat.pow_pos (by decide))
    by_cases h2 : r < 8388608
    · rw [if_pos h2]; omega
    · rw [if_neg h2]
      have hq : r / 8388608 ≤ s / 8388608 := Nat.div_le_div_right (Nat.le_of_lt h)
      by_cases h3 : r / 8388608 = s / 8388608
      · rw [h3]
        exact Nat.mul_lt_mul_of_pos_right (by omega) (Nat.pow_pos (by decide))
      · have e : s / 8388608 - 1 = (r / 8388608 - 1 + 1) + (s / 8388608 - 1 - (r / 8388608 - 1 + 1)) := by omega
        have p2 : (8388608 + r % 8388608) * 2 ^ (r / 8388608 - 1) < 8388608 * 2 ^ (r / 8388608 - 1 + 1) := by
          rw [Nat.pow_succ, show 8388608 * (2 ^ (r / 8388608 - 1) * 2) = 16777216 * 2 ^ (r / 8388608 - 1) by omega]
          exact Nat.mul_lt_mul_of_pos_right (by omega) (Nat.pow_pos (by decide))
        have p3 : 8388608 * 2 ^ (r / 8388608 - 1 + 1) ≤ 8388608 * 2 ^ (s / 8388608 - 1) := Nat.mul_le_mul_left _ (Nat.pow_le_pow_right (by decide) (by omega))
        have p4 : 8388608 * 2 ^ (s / 8388608 - 1) ≤ (8388608 + s % 8388608) * 2 ^ (s / 8388608 - 1) := Nat.mul_le_mul_right _ (by omega)
        omega

theorem mag_zero : mag 0 = 0 := by unfold mag; rfl
theorem mag_pos {r : Nat} (h : 0 < r) : 0 < mag r := by have := mag_lt h; rw [mag_zero] at this; exact this

theorem cmp_of {a b c d : Int} (h1 : a < b → c < d) (h2 : a = b → c = d) (h3 : b < a → d < c) : compare c d = compare a b := by
  rcases Int.lt_trichotomy a b with h | h | h
  · rw [Int.compare_eq_lt.mpr h, Int.compare_eq_lt.mpr (h1 h)]
  · rw [Int.compare_eq_eq.mpr h, Int.compare_eq_eq.mpr (h2 h)]
  · rw [Int.compare_eq_gt.mpr h, Int.compare_eq_gt.mpr (h3 h)]

/-- What a word stands for, as magnitude and least place. -/
theorem read_single (x : Nat) : (∃ m, ∃ e : Nat, single.read x = .number (x / 2147483648 % 2 == 1) m (-149 + (e : Int)) ∧ m * 2 ^ e = mag (x % 2147483648) ∧ x % 2147483648 < 2139095040) ∨
    (single.read x = .infinity (x / 2147483648 % 2 == 1) ∧ x % 2147483648 = 2139095040) ∨ (isN .f32 x = true) := by
  have h1 : single.signWeight = 2147483648 := by decide
  have h2 : single.binade = 8388608 := by decide
  have h3 : single.infRung = 2139095040 := by decide
  have h4 : single.leastPlace = -149 := by decide
  by_cases a : x % 2147483648 < 8388608
  · refine .inl ⟨x % 2147483648, 0, ?_, ?_, by omega⟩
    · unfold Format.read; simp only [h1, h2, h4]; rw [if_pos a]; simp
    · unfold mag; rw [if_pos a]; simp
  · by_cases b : x % 2147483648 < 2139095040
    · refine .inl ⟨8388608 + x % 2147483648 % 8388608, x % 2147483648 / 8388608 - 1, ?_, ?_, b⟩
      · unfold Format.read; simp only [h1, h2, h3, h4]; rw [if_neg a, if_pos b]
      · unfold mag; rw [if_neg a]
    · by_cases c : x % 2147483648 = 2139095040
      · refine .inr (.inl ⟨?_, c⟩)
        unfold Format.read; simp only [h1, h2, h3]; rw [if_neg a, if_neg b, if_pos c]
      · refine .inr (.inr ?_)
        unfold isN FloatKind.decode Format.read
        simp only [FloatKind.format, h1, h2, h3]
        rw [if_neg a, if_neg b, if_neg c]
        rfl

theorem notN_rung {x : Nat} (h : isN .f32 x = false) : x % 2147483648 ≤ 2139095040 := by
  rcases read_single x with ⟨_, _, _, _, h1⟩ | ⟨_, h1⟩ | h1
  · omega
  · omega
  · rw [h] at h1; cases h1

theorem isN_of_rung {x : Nat} (h : 2139095040 < x % 2147483648) : isN .f32 x = true := by
  rcases read_single x with ⟨_, _, _, _, h1⟩ | ⟨_, h1⟩ | h1
  · omega
  · omega
  · exact h1

/-- A magnitude with its sign. -/
def sg (s : Bool) (m : Nat) : Int := if s then -(m : Int) else (m : Int)

theorem signed_mul (s : Bool) (m e : Nat) (u : Nat) (he : m * 2 ^ e = u) (b : Int) (hb : b ≤ -149 + (e : Int)) (hb0 : -149 ≤ b) :
    signed s m ((-149 + (e : Int)) - b).toNat * 2 ^ ((b + 149).toNat) = sg s u := by
  have k : ((-149 + (e : Int)) - b).toNat + (b + 149).toNat = e := by omega
  unfold signed sg
  subst he
  have e1 : (m <<< ((-149 + (e : Int)) - b).toNat) * 2 ^ ((b + 149).toNat) = m * 2 ^ e := by
    rw [Nat.shiftLeft_eq, Nat.mul_assoc, ← Nat.pow_add, k]
  split
  · rw [Int.neg_mul, ← e1]; push_cast; rfl
  · rw [← e1]; push_cast; rfl

theorem key_eq (x : Nat) : key x = sg (x / 2147483648 % 2 == 1) (x % 2147483648) := by
  unfold key sg
  by_cases h : x / 2147483648 % 2 = 1 <;> simp [h]

theorem sg_cmp (s t : Bool) (a b : Nat) : compare (sg s (mag a)) (sg t (mag b)) = compare (sg s a) (sg t b) := by
  have c1 : a < b → mag a < mag b := mag_lt
  have c2 : b < a → mag b < mag a := mag_lt
  have c3 : a = b → mag a = mag b := fun h => by rw [h]
  have z1 : a = 0 → mag a = 0 := fun h => by rw [h, mag_zero]
  have z2 : b = 0 → mag b = 0 := fun h => by rw [h, mag_zero]
  have p1 : 0 < a → 0 < mag a := mag_pos
  have p2 : 0 < b → 0 < mag b := mag_pos
  generalize mag a = u at *
  generalize mag b = v at *
  apply cmp_of <;> unfold sg <;> cases s <;> cases t <;> simp <;> omega

theorem order_key (x y : Nat) (hx : isN .f32 x = false) (hy : isN .f32 y = false) : FloatKind.f32.format.order x y = some (compare (key x) (key y)) := by
  rw [key_eq, key_eq]
  unfold Format.order FloatKind.format
  rcases read_single x with ⟨m, e, h1, h2, h3⟩ | ⟨h1, h2⟩ | h1
  · rcases read_single y with ⟨n, f, k1, k2, k3⟩ | ⟨k1, k2⟩ | k1
    · simp only [h1, k1, Datum.order]
      rw [← sg_cmp]
      congr 1
      have s1 := signed_mul (x / 2147483648 % 2 == 1) m e _ h2 (min (-149 + (e : Int)) (-149 + (f : Int))) (by omega) (by omega)
      have s2 := signed_mul (y / 2147483648 % 2 == 1) n f _ k2 (min (-149 + (e : Int)) (-149 + (f : Int))) (by omega) (by omega)
      rw [← s1, ← s2]
      have hp : (0 : Int) < 2 ^ ((min (-149 + (e : Int)) (-149 + (f : Int)) + 149).toNat) := Int.pow_pos (by decide)
      symm
      apply cmp_of
      · intro h; exact Int.mul_lt_mul_of_pos_right h hp
      · intro h; rw [h]
      · intro h; exact Int.mul_lt_mul_of_pos_right h hp
    · simp only [h1, k1, Datum.order]
      congr 1
      generalize (x / 2147483648 % 2 == 1) = s at *
      generalize (y / 2147483648 % 2 == 1) = t at *
      cases t
      · symm; apply Int.compare_eq_lt.mpr; cases s <;> simp [sg] <;> omega
      · symm; apply Int.compare_eq_gt.mpr; cases s <;> simp [sg] <;> omega
    · rw [hy] at k1; cases k1
  · rcases read_single y with ⟨n, f, k1, k2, k3⟩ | ⟨k1, k2⟩ | k1
    · simp only [h1, k1, Datum.order]
      congr 1
      generalize (x / 2147483648 % 2 == 1) = s at *
      generalize (y / 2147483648 % 2 == 1) = t at *
      cases s
      · symm; apply Int.compare_eq_gt.mpr; cases t <;> simp [sg] <;> omega
      · symm; apply Int.compare_eq_lt.mpr; cases t <;> simp [sg] <;> omega
    · simp only [h1, k1, Datum.order]
      congr 1
      rw [h2, k2]
      generalize (x / 2147483648 % 2 == 1) = s at *
      generalize (y / 2147483648 % 2 == 1) = t at *
      cases s <;> cases t <;> decide
    · rw [hy] at k1; cases k1
  · rw [hx] at h1; cases h1
end Go.Proofs.Ytopkehknaclhlaa
