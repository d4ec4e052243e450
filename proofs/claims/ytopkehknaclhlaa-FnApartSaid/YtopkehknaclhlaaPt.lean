/- Slices of truth values; the program tells which samples are taken. Conditions: the pool is valid. -/
import Derived.Test.YtopkehknaclhlaaMh
namespace Go.Proofs.Ytopkehknaclhlaa
open Go Go.RowKit

theorem infoB : ∃ i z, Try.prog.info? 4 = some i ∧ i.zero = some z ∧ i.size = 1 ∧ i.bytes = 1 ∧ z.cells.size = 1 := by
  have h : (Try.prog.info? 4).map (fun i => (i.zero.map (fun z => z.cells.size), i.size, i.bytes)) = some (some 1, 1, 1) := by kernel_rfl
  cases hi : Try.prog.info? 4 with
  | none => rw [hi] at h; cases h
  | some i =>
    rw [hi] at h
    simp only [Option.map_some, Option.some.injEq, Prod.mk.injEq] at h
    obtain ⟨h1, h2, h3⟩ := h
    cases hz : i.zero with
    | none => rw [hz] at h1; cases h1
    | some z =>
      rw [hz] at h1
      exact ⟨i, z, rfl, hz, h2, h3, by simpa using h1⟩

def encB : Enc Bool where
  T := 131
  E := 4
  k := 1
  bytes := 1
  cells n := [.bool n]
  len _ := rfl
  one f u hu := by
    simp at hu
    subst hu
    rfl
  pos := by decide
  small := by decide
  under := Try.underlying131
  info := infoB

abbrev OwnT (w : World) (base : Nat) (v : Value) (cs : List Bool) : Prop := OwnR encB w base v cs

theorem OwnT.get {w : World} {base n : Nat} {v : Value} {cs : List Bool} (h : OwnT w base v cs) (hl : cs.length = n) {k : Nat} (hk : k < n) : ∃ g c cur, v = .slice (some ⟨g, 0, none⟩) n c ∧ base ≤ g ∧ g < w.heap.size ∧ n ≤ c ∧ w.heap[g]? = some (.cells cur 4 (0, 0)) ∧ ∃ z, cs[k]? = some z ∧ w.cell? ⟨g, k, none⟩ = some (.bool z) := by
  obtain ⟨g, c, cur, hv, hb, hg, hc, hh, hs, hcell⟩ := h.row hl (by omega)
  refine ⟨g, c, cur, hv, hb, hg, hc, hh, cs[k]'(by omega), by simp [hl, hk], ?_⟩
  rw [cell_at hh]
  have e := hcell k 0 hk (by decide)
  rw [show encB.k = 1 from rfl, Nat.mul_one, Nat.add_zero] at e
  rw [e]
  rfl

theorem flat_setB (cs : List Bool) : ∀ (i : Nat) (z : Bool), (cs.set i z).flatMap encB.cells = (cs.flatMap encB.cells).set i (.bool z) := by
  induction cs with
  | nil => intro i z; simp
  | cons c cs ih =>
    intro i z
    cases i with
    | zero => rfl
    | succ i => simp [List.flatMap_cons, ih i z]; rfl

theorem OwnT.put {w : World} {base g n c : Nat} {cs : List Bool} (h : OwnT w base (.slice (some ⟨g, 0, none⟩) n c) cs) (i : Nat) (z : Bool) (hi : i < cs.length) : OwnT (w.setCell ⟨g, i, none⟩ (.bool z)) base (.slice (some ⟨g, 0, none⟩) n c) (cs.set i z) := by
  obtain ⟨h1, h2⟩ := h
  rcases h2 with ⟨h2, _⟩ | ⟨g', cap, cur, hv, hg, hh, hc, hm, hs, ht⟩
  · simp at h2
  · simp at hv
    obtain ⟨rfl, rfl, rfl⟩ := hv
    refine ⟨by rw [flat_len], .inr ⟨g, c, cur.setIfInBounds i (.bool z), by rw [List.length_set], hg, heap_set hh, by rw [List.length_set]; exact hc, hm, by simpa using hs, ?_⟩⟩
    rw [flat_setB, List.length_set]
    have hk : encB.k = 1 := rfl
    rw [hk, Nat.mul_one] at ht ⊢
    rw [Array.toList_setIfInBounds, List.take_set, ht]

def tb (n : Nat) (c : Nat → Bool) : List Bool := (List.range n).map c
theorem tb_len (n : Nat) (c : Nat → Bool) : (tb n c).length = n := by simp [tb]
theorem tb_get (n : Nat) (c : Nat → Bool) {i : Nat} (h : i < n) : (tb n c)[i]? = some (c i) := by simp [tb, h]
theorem tb_set (n : Nat) (c d : Nat → Bool) {i : Nat} (h : i < n) (hd : ∀ j, j < n → d j = if j = i then true else c j) : (tb n c).set i true = tb n d := by
  apply List.ext_getElem?
  intro j
  by_cases hj : j < n
  · rw [List.getElem?_set, tb_get n d hj, hd j hj, tb_len]
    by_cases e : i = j
    · subst e; simp [h]
    · rw [if_neg e, tb_get n c hj, if_neg (fun h => e h.symm)]
  · rw [List.getElem?_eq_none (by rw [List.length_set, tb_len]; omega), List.getElem?_eq_none (by rw [tb_len]; omega)]
theorem tb_congr (n : Nat) {c d : Nat → Bool} (h : ∀ j, j < n → c j = d j) : tb n c = tb n d := by
  unfold tb
  apply List.map_congr_left
  intro j hj
  rw [h j (List.mem_range.mp hj)]

theorem info3b : (Try.prog.info? 4).map (fun i => (i.zero, i.size, i.bytes)) = some (some (.bool false), 1, 1) := by kernel_rfl
theorem run_makeBools (w : World) (n : Nat) (h : n ≤ 1048576) : (Instr.makeSlice 131 (.int .i64 (n : Int)) (.int .i64 (n : Int))).run Try.prog w =
    .ok (.slice (some ⟨w.heap.size, 0, none⟩) n n) (w.alloc (.cells (Array.replicate n (.bool false)) 4)) := by
  obtain ⟨i, hi, hz, hs, hb⟩ := info_parts info3b
  have hr := run_make (P := Try.prog) w 131 4 i _ Try.underlying131 hi hz .i64 .i64 n n (by omega) (by omega) (by rw [hb]; omega) (by omega)
  rw [hr, hs]
  simp only [Int.toNat_natCast, Nat.mul_one]
  rw [show (Value.bool false).cells = #[.bool false] from rfl, madeCells_one]
theorem flat_false (n : Nat) : (Array.replicate n (Value.bool false)).toList = (tb n (fun _ => false)).flatMap encB.cells := by
  rw [Array.toList_replicate]
  unfold tb
  rw [List.flatMap_map]
  induction n with
  | zero => rfl
  | succ n ih => rw [List.range_succ, List.flatMap_append, ← ih, List.replicate_succ']; rfl
theorem cv_snoc {ls : List Ls} {k : Nat} {l : Ls} (h : ls[k]? = some l) (i : Nat) : cv (ls.take (k + 1)) i = (cv (ls.take k) i || cvl i l) := by
  unfold cv
  rw [List.take_add_one, h, Option.toList_some, List.any_append]
  simp
end Go.Proofs.Ytopkehknaclhlaa
