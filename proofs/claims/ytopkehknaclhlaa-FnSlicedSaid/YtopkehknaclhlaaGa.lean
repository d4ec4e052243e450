/- Appending lists of samples where the operation is guarded (and wanted). Conditions: at most 2^20 elements. -/
import Derived.Test.YtopkehknaclhlaaSm
import Derived.BigFrame
namespace Go.Proofs.Ytopkehknaclhlaa
open Go Go.RowKit

theorem wp_app {o : Oper} {a : Act} {K : Act → World → Prop} {Q : Exit → Act → World → Prop} (w : World) (s x : Operand)
    (ho : o.op = .call { callee := .builtin .append, args := #[s, x], argTypes := #[25, 25] })
    (base : Nat) (v u : Value) (xs ys : List (Nat × Nat)) (hs : a.eval s = v) (hown : OwnC w base v xs) (hx : a.eval x = u) (hu : OwnC w 0 u ys)
    (hlen : xs.length + ys.length ≤ 1048576) (hbase : base ≤ w.heap.size)
    (h : ∀ a' c' w', OwnC w' base (.slice a' (xs.length + ys.length) c') (xs ++ ys) → Chg (fun n => some n = v.ownBlock) w w' → K (a.put o.dst (.slice a' (xs.length + ys.length) c')) w') :
    o.wp Try.prog a w K Q := by
  obtain ⟨i, hi, hz, hsz, hby⟩ := info_parts info33
  rcases hu.block with ⟨rfl, rfl⟩ | ⟨g, cap, cur, rfl, hg, hh, hc, hm, hcell⟩
  · have hrun := run_append_owned_none (P := Try.prog) w base 25 o.type 33 i 1 Try.underlying25 hi v _ _ hown
    obtain ⟨a', c', hv⟩ := hown.form
    unfold Oper.wp
    simp [execOp, ho, resolve, invoke, builtin, hs, hx, hrun, Result.andThen]
    have h2 := h a' c' w (by simpa [hv] using hown) (Chg.refl _ w)
    simpa [hv, Oper.upon] using h2
  · refine wp_append_own w s x 25 ho base 33 i (.complex .f32 0 0) 1 8 Try.underlying25 hi hz hsz hby rfl (by decide) v xs.length (xs.map cx) hs hown ⟨g, 0, none⟩ ys.length cap (ys.map cx) hx (by simp) hu.cellsOf.2 (cx_one ys) (by unfold maxLen; omega) (by omega) hbase ?_
    intro v' w' hown' hgrow _
    have hown2 : OwnC w' base v' (xs ++ ys) := by simpa [OwnC] using hown'
    obtain ⟨a', c', rfl⟩ := hown2.form
    simp only [List.length_append] at hown2 ⊢
    exact h a' c' w' hown2 (Chg.of_grown hgrow fun n hn _ => hn)

/-- One list is appended to another, under a guard that wants it. -/
theorem wpList_appW {ops : Array Oper} {rest : List Oper} {o : Oper} {a : Act} {Q : Exit → Act → World → Prop} (w : World) (hw : Region.wanted o (yielded ops a.tmps) = true) (s x : Operand)
    (ho : o.op = .call { callee := .builtin .append, args := #[s, x], argTypes := #[25, 25] })
    (base : Nat) (v u : Value) (xs ys : List (Nat × Nat)) (hs : a.eval s = v) (hown : OwnC w base v xs) (hx : a.eval x = u) (hu : OwnC w 0 u ys)
    (hlen : xs.length + ys.length ≤ 1048576) (hbase : base ≤ w.heap.size)
    (h : ∀ a' c' w', OwnC w' base (.slice a' (xs.length + ys.length) c') (xs ++ ys) → Chg (fun n => some n = v.ownBlock) w w' → wpList Try.prog ops Q rest (a.put o.dst (.slice a' (xs.length + ys.length) c')) w') :
    wpList Try.prog ops Q (o :: rest) a w :=
  BigFrame.wpList_want hw fun _ hK => wp_app w s x ho base v u xs ys hs hown hx hu hlen hbase fun a' c' w' h1 h2 => hK _ _ (h a' c' w' h1 h2)
end Go.Proofs.Ytopkehknaclhlaa
