/- Slices that read as a list wherever they stand: copies of them, appending them. Conditions: at most 2^20 elements. -/
import Derived.Test.YtopkehknaclhlaaUt
namespace Go.Proofs.Ytopkehknaclhlaa
open Go Go.RowKit

/-- A slice that reads as the list (nil, or anywhere in a block). -/
def RdC (w : World) (v : Value) (ys : List (Nat × Nat)) : Prop :=
  (v = .slice none 0 0 ∧ ys = []) ∨ ∃ g off C, v = .slice (some ⟨g, off, none⟩) ys.length C ∧ g < w.heap.size ∧ ys.length ≤ C ∧ C ≤ maxLen ∧ ∀ j (hj : j < ys.length), w.cell? ⟨g, off + j, none⟩ = some (cx ys[j])

theorem RdC.chg {S : Nat → Prop} {w w' : World} {v : Value} {ys : List (Nat × Nat)} (h : RdC w v ys) (G : Chg S w w') (hS : ∀ g, some g = v.ownBlock → ¬ S g) : RdC w' v ys := by
  rcases h with h | ⟨g, off, C, rfl, hg, h1, h2, hc⟩
  · exact .inl h
  · exact .inr ⟨g, off, C, rfl, Nat.lt_of_lt_of_le hg G.size, h1, h2, fun j hj => G.cell (hc j hj) (hS g rfl)⟩
theorem RdC.of_own {w : World} {base : Nat} {v : Value} {xs : List (Nat × Nat)} (h : OwnC w base v xs) : RdC w v xs := by
  rcases h.block with ⟨rfl, rfl⟩ | ⟨g, cap, cur, rfl, hb, hh, hc, hm, hcell⟩
  · exact .inl ⟨rfl, rfl⟩
  · exact .inr ⟨g, 0, cap, rfl, heap_lt hh, hc, hm, fun j hj => by rw [Nat.zero_add, cell_at hh, hcell j hj]⟩
theorem RdC.form {w : World} {v : Value} {ys : List (Nat × Nat)} (h : RdC w v ys) : ∃ a c, v = .slice a ys.length c := by
  rcases h with ⟨rfl, rfl⟩ | ⟨g, off, C, rfl, _⟩ <;> exact ⟨_, _, rfl⟩
theorem RdC.cells {w : World} {g off m C : Nat} {ys : List (Nat × Nat)} (h : RdC w (.slice (some ⟨g, off, none⟩) m C) ys) : m = ys.length ∧ ∀ j u, (ys.map cx)[j]? = some u → w.cell? ((⟨g, off, none⟩ : Addr).add j) = some u := by
  rcases h with ⟨h, _⟩ | ⟨g', off', C', hv, hg, h1, h2, hc⟩
  · simp at h
  · simp at hv
    obtain ⟨⟨rfl, rfl⟩, rfl, rfl⟩ := hv
    refine ⟨rfl, fun j u hu => ?_⟩
    rw [Addr.add_lit]
    have hj : j < ys.length := by
      rcases Nat.lt_or_ge j ys.length with h | h
      · exact h
      · simp [List.getElem?_eq_none (l := ys.map cx) (by simpa using h)] at hu
    rw [hc j hj]
    simpa [hj] using hu

/-- A list that reads so is appended to an owned one. -/
theorem wpList_appRd {ops : Array Oper} {rest : List Oper} {o : Oper} {a : Act} {Q : Exit → Act → World → Prop} (w : World) (hgd : o.guard = none) (s x : Operand)
    (ho : o.op = .call { callee := .builtin .append, args := #[s, x], argTypes := #[25, 25] })
    (base : Nat) (v u : Value) (xs ys : List (Nat × Nat)) (hs : a.eval s = v) (hown : OwnC w base v xs) (hx : a.eval x = u) (hu : RdC w u ys)
    (hlen : xs.length + ys.length ≤ 1048576) (hbase : base ≤ w.heap.size)
    (h : ∀ a' c' w', OwnC w' base (.slice a' (xs.length + ys.length) c') (xs ++ ys) → Chg (fun n => some n = v.ownBlock) w w' → wpList Try.prog ops Q rest (a.put o.dst (.slice a' (xs.length + ys.length) c')) w') :
    wpList Try.prog ops Q (o :: rest) a w := by
  obtain ⟨i, hi, hz, hsz, hby⟩ := info_parts info33
  rcases hu with ⟨rfl, rfl⟩ | ⟨g, off, C, rfl, hg, h1, h2, hc⟩
  · refine wpList_plain hgd fun K hK' => ?_
    have hrun := run_append_owned_none (P := Try.prog) w base 25 o.type 33 i 1 Try.underlying25 hi v _ _ hown
    obtain ⟨a', c', hv⟩ := hown.form
    unfold Oper.wp
    simp [execOp, ho, resolve, invoke, builtin, hs, hx, hrun, Result.andThen]
    refine hK' _ _ ?_
    have h2 := h a' c' w (by simpa [hv] using hown) (Chg.refl _ w)
    simpa [hv] using h2
  · have hu' : RdC w (.slice (some ⟨g, off, none⟩) ys.length C) ys := .inr ⟨g, off, C, rfl, hg, h1, h2, hc⟩
    refine wpList_append_own w hgd s x 25 ho base 33 i (.complex .f32 0 0) 1 8 Try.underlying25 hi hz hsz hby rfl (by decide) v xs.length (xs.map cx) hs hown ⟨g, off, none⟩ ys.length C (ys.map cx) hx (by simp) hu'.cells.2 (cx_one ys) (by unfold maxLen; omega) (by omega) hbase ?_
    intro v' w' hown' hgrow _
    have hown2 : OwnC w' base v' (xs ++ ys) := by simpa [OwnC] using hown'
    obtain ⟨a', c', rfl⟩ := hown2.form
    simp only [List.length_append] at hown2 ⊢
    exact h a' c' w' hown2 (Chg.of_grown hgrow fun n hn _ => hn)

/-- A copy comes back: new blocks alone. -/
def RCl (w : World) (ys : List (Nat × Nat)) (e : Ending) (w' : World) : Prop :=
  ∃ a' c', e = .returned (.slice a' ys.length c') ∧ OwnC w' w.heap.size (.slice a' ys.length c') ys ∧ Chg (fun _ => False) w w'

set_option maxHeartbeats 400000 in
theorem CloneRd_calls (w : World) (v : Value) (ys : List (Nat × Nat)) (hx : ys.length ≤ 1048576) (hr : RdC w v ys) : Calls Try.prog 97 #[v] w (RCl w ys) := by
  have hnil := fun (w : World) (a : Option Addr) (l c : Nat) => Lib.run_eql_slice_nil (P := Try.prog) w 25 33 a l c 0 0 Try.underlying25
  rcases hr with ⟨rfl, rfl⟩ | ⟨g, off, C, rfl, hg, h1, h2, hc⟩
  · go_enter Try.func97, Try.ntmps97
    go_wp2
    go_ret
    exact ⟨none, 0, rfl, OwnC.nil _ _, Chg.refl _ w⟩
  · have hR : RdC (w.alloc (.cells #[] 33)) (.slice (some ⟨g, off, none⟩) ys.length C) ys := RdC.chg (.inr ⟨g, off, C, rfl, hg, h1, h2, hc⟩) ((Chg.refl (fun _ => False) w).alloc _) (fun _ _ h => h)
    have HR := hid hR
    have HE := hid (OwnC.lit w [] 33 rfl (by simp) (Nat.le_refl w.heap.size) #[] rfl)
    clear hR hc
    go_enter Try.func97, Try.ntmps97
    go_wp2_with (at_builtin; refine wpList_appRd _ rfl _ _ rfl w.heap.size _ _ [] ys rfl HE.out rfl HR.out (by simp; omega) (by simp) ?_)
    intro a' c' w' hO hG
    have hO2 : OwnC w' w.heap.size (.slice a' ys.length c') ys := by simpa using hO
    try simp only [List.length_nil, Nat.zero_add]
    go_wp2
    go_ret
    exact ⟨a', c', rfl, hO2, ((Chg.refl (fun n => n = w.heap.size) w).alloc _).trans hG (fun n _ h => by simpa [Value.ownBlock] using h) |>.trans (Chg.refl (fun _ => False) w') (fun _ _ h => h.elim) |> fun g => (Chg.refl (fun _ => False) w).trans g (fun n hn e => by omega)⟩
end Go.Proofs.Ytopkehknaclhlaa
