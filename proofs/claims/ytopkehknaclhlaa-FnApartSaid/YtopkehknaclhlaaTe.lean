/- Lemmas for FnApart: an append under a guard in a drawn region; a list cut short. Plain facts; conditions: as each says. -/
import Derived.Test.YtopkehknaclhlaaQo
import Derived.Test.YtopkehknaclhlaaTd
import Derived.Test.YtopkehknaclhlaaNc
import Derived.Test.YtopkehknaclhlaaFh
import Derived.Deep.DeepAppendRoom
namespace Go.Proofs.Ytopkehknaclhlaa
open Go Go.RowKit

theorem step_appG {ops : Array Oper} {o : Oper} {a : Act} {K : Act → World → Prop} {Q : Exit → Act → World → Prop} {E : Prop} {w : World} (hw : Region.wanted o (yielded ops a.tmps) = true) (s x : Operand)
    (ho : o.op = .call { callee := .builtin .append, args := #[s, x], argTypes := #[25, 25] })
    (base : Nat) (v u : Value) (xs ys : List (Nat × Nat)) (hs : a.eval s = v) (hown : OwnC w base v xs) (hx : a.eval x = u) (hu : OwnC w 0 u ys)
    (hlen : xs.length + ys.length ≤ 1048576) (hbase : base ≤ w.heap.size)
    (h : ∀ a' c' w', OwnC w' base (.slice a' (xs.length + ys.length) c') (xs ++ ys) → Chg (fun n => some n = v.ownBlock) w w' → K (a.put o.dst (.slice a' (xs.length + ys.length) c')) w') :
    if Region.wanted o (yielded ops a.tmps) = true then Oper.wp Try.prog o a w K Q else E := by
  rw [if_pos hw]
  exact wp_app w s x ho base v u xs ys hs hown hx hu hlen hbase h
theorem OwnC.at0 {w : World} {b n c : Nat} {a : Option Addr} {xs : List (Nat × Nat)} (h : OwnC w b (.slice a n c) xs) : a.map (fun x => x.add 0) = a := by
  rcases h.block with ⟨h1, _⟩ | ⟨g, cap, cur, h1, _⟩
  · injection h1 with e1
    subst e1
    rfl
  · injection h1 with e1
    subst e1
    rfl
theorem OwnC.cut {w : World} {b n c : Nat} {a : Option Addr} {xs : List (Nat × Nat)} (h : OwnC w b (.slice a n c) xs) (k : Nat) (hk : k ≤ xs.length) : OwnC w b (.slice a k c) (xs.take k) := by
  have hl : (xs.take k).length = k := by rw [List.length_take]; omega
  obtain ⟨h1, h2⟩ := h
  refine ⟨by simp, ?_⟩
  rcases h2 with ⟨h2, h3⟩ | ⟨g, cap, cur, hv, hb, hh, hc, hm, hs, ht⟩
  · injection h2 with e1 e2 e3
    subst e1 e3
    have : k = 0 := by omega
    subst this
    exact .inl ⟨rfl, hl⟩
  · injection hv with e1 e2 e3
    subst e1 e3
    refine .inr ⟨g, c, cur, by rw [hl], hb, hh, by rw [hl]; omega, hm, hs, ?_⟩
    rw [hl, List.map_take, ← ht, List.take_take, Nat.mul_one, Nat.mul_one, Nat.min_eq_left hk]
/-- An append, and where the result lies: in the block of what was appended to, or in a new one. -/
theorem run_app_where {w : World} {base : Nat} {v u : Value} {xs ys : List (Nat × Nat)} (hown : OwnC w base v xs) (hu : OwnC w 0 u ys) (hy : ys ≠ []) (hlen : xs.length + ys.length ≤ 1048576) (hbase : base ≤ w.heap.size) (ty : TypeId) :
    ∃ a' c' w', (Builtin.append_ #[25, 25] ty #[v, u]).run Try.prog w = .ok (.slice a' (xs.length + ys.length) c') w' ∧ OwnC w' base (.slice a' (xs.length + ys.length) c') (xs ++ ys) ∧ Chg (fun n => some n = v.ownBlock) w w' ∧
      ∀ q, some q = (Value.slice a' (xs.length + ys.length) c').ownBlock → some q = v.ownBlock ∨ w.heap.size ≤ q := by
  obtain ⟨i, hi, hz, hsz, hby⟩ := info_parts info33
  rcases hu.block with ⟨_, rfl⟩ | ⟨g, cap, cur, rfl, hg, hh, hc, hm, hcell⟩
  · exact absurd rfl hy
  · have hyl : 0 < ys.length := List.length_pos_iff.mpr hy
    obtain ⟨v', w', hr, ho', hgr, _⟩ := run_append_own (P := Try.prog) w base 25 ty 33 i (.complex .f32 0 0) 1 8 Try.underlying25 hi hz hsz hby rfl (by decide) v xs.length (xs.map cx) hown ⟨g, 0, none⟩ ys.length cap (ys.map cx) (by simp) hu.cellsOf.2 (cx_one ys) (by unfold maxLen; omega) (by omega) hbase
    have hown2 : OwnC w' base v' (xs ++ ys) := by simpa [OwnC] using ho'
    obtain ⟨a', c', rfl⟩ := hown2.form
    simp only [List.length_append] at hown2 hr
    refine ⟨a', c', w', hr, hown2, Chg.of_grown hgr fun n hn _ => hn, fun q hq => ?_⟩
    rcases hown.block with ⟨rfl, rfl⟩ | ⟨g2, cap2, cur2, rfl, _, hh2, hc2, _, _⟩
    · have hr2 := run_append_nil (P := Try.prog) w 25 ty 33 i (.complex .f32 0 0) Try.underlying25 hi hz ⟨g, 0, none⟩ ys.length cap (ys.map cx) (by simp [hsz]) hu.cellsOf.2 hyl (by omega) (by rw [hby]; omega)
      rw [hr2] at hr
      injection hr with e1 e2
      injection e1 with e3
      subst e3
      simp [Value.ownBlock] at hq
      exact .inr (by omega)
    · by_cases hroom : xs.length + ys.length ≤ cap2
      · obtain ⟨w2, hr2, _⟩ := run_append_own_spare (P := Try.prog) w base 25 ty 33 i 1 Try.underlying25 hi hsz g2 xs.length cap2 (xs.map cx) hown ⟨g, 0, none⟩ ys.length cap (ys.map cx) (by simp) hu.cellsOf.2 (cx_one ys) hroom
        rw [hr2] at hr
        injection hr with e1 e2
        injection e1 with e3
        subst e3
        exact .inl hq
      · have hr2 := run_append_grow (P := Try.prog) w 25 ty 33 i (.complex .f32 0 0) Try.underlying25 hi hz ⟨g2, 0, none⟩ xs.length cap2 (xs.map cx) (by simp [hsz]) hown.cellsOf.2 ⟨g, 0, none⟩ ys.length cap (ys.map cx) (by simp [hsz]) hu.cellsOf.2 (by omega) (by omega) (by rw [hby]; exact growslice_fits (by omega) (by omega))
        rw [hr2] at hr
        injection hr with e1 e2
        injection e1 with e3
        subst e3
        simp [Value.ownBlock] at hq
        exact .inr (by omega)
theorem wpList_appX {ops : Array Oper} {rest : List Oper} {o : Oper} {a : Act} {Q : Exit → Act → World → Prop} (w : World) (hgd : o.guard = none) (s x : Operand)
    (ho : o.op = .call { callee := .builtin .append, args := #[s, x], argTypes := #[25, 25] })
    (base : Nat) (v u : Value) (xs ys : List (Nat × Nat)) (hs : a.eval s = v) (hown : OwnC w base v xs) (hx : a.eval x = u) (hu : OwnC w 0 u ys) (hy : ys ≠ [])
    (hlen : xs.length + ys.length ≤ 1048576) (hbase : base ≤ w.heap.size)
    (h : ∀ a' c' w', OwnC w' base (.slice a' (xs.length + ys.length) c') (xs ++ ys) → Chg (fun n => some n = v.ownBlock) w w' → (∀ q, some q = (Value.slice a' (xs.length + ys.length) c').ownBlock → some q = v.ownBlock ∨ w.heap.size ≤ q) → wpList Try.prog ops Q rest (a.put o.dst (.slice a' (xs.length + ys.length) c')) w') :
    wpList Try.prog ops Q (o :: rest) a w := by
  obtain ⟨a', c', w', hr, h1, h2, h3⟩ := run_app_where hown hu hy hlen hbase o.type
  obtain ⟨av, cv, hv⟩ := hown.form
  obtain ⟨au, cu, hu2⟩ := hu.form
  refine wpList_plain hgd fun K hK' => ?_
  unfold Oper.wp
  rw [hv, hu2] at hr
  simp [execOp, ho, resolve, invoke, builtin, hs, hx, hv, hu2, hr, Result.andThen]
  exact hK' _ _ (h a' c' w' h1 h2 h3)
end Go.Proofs.Ytopkehknaclhlaa
