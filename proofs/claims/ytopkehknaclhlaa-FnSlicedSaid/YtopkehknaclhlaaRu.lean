/- The reference's rings: what copies, takes and pushes. Conditions: the ring is valid. -/
import Derived.Test.YtopkehknaclhlaaRt
import Derived.Deep.RegionHeld3
namespace Go.Proofs.Ytopkehknaclhlaa
open Go Go.RowKit

/-- One list is appended to another, at a step of a region that draws its order. -/
theorem step_app {ops : Array Oper} {o : Oper} {a : Act} {K : Act → World → Prop} {Q : Exit → Act → World → Prop} {E : Prop} {w : World} (hgd : o.guard = none) (s x : Operand)
    (ho : o.op = .call { callee := .builtin .append, args := #[s, x], argTypes := #[25, 25] })
    (base : Nat) (v u : Value) (xs ys : List (Nat × Nat)) (hs : a.eval s = v) (hown : OwnC w base v xs) (hx : a.eval x = u) (hu : OwnC w 0 u ys)
    (hlen : xs.length + ys.length ≤ 1048576) (hbase : base ≤ w.heap.size)
    (h : ∀ a' c' w', OwnC w' base (.slice a' (xs.length + ys.length) c') (xs ++ ys) → Chg (fun n => some n = v.ownBlock) w w' → K (a.put o.dst (.slice a' (xs.length + ys.length) c')) w') :
    if Region.wanted o (yielded ops a.tmps) = true then Oper.wp Try.prog o a w K Q else E := by
  have hw : Region.wanted o (yielded ops a.tmps) = true := by simp [Region.wanted, hgd]
  rw [if_pos hw]
  obtain ⟨i, hi, hz, hsz, hby⟩ := info_parts info33
  rcases hu.block with ⟨rfl, rfl⟩ | ⟨g, cap, cur, rfl, hg, hh, hc, hm, hcell⟩
  · have hrun := run_append_owned_none (P := Try.prog) w base 25 o.type 33 i 1 Try.underlying25 hi v _ _ hown
    obtain ⟨a', c', hv⟩ := hown.form
    unfold Oper.wp
    simp [execOp, ho, resolve, invoke, builtin, hs, hx, hrun, Result.andThen]
    have h2 := h a' c' w (by simpa [hv] using hown) (Chg.refl _ w)
    simpa [hv, Oper.upon] using h2
  · refine wp_append_own w s x 25 ho base 33 i (.complex .f32 0 0) 1 8 Try.underlying25 hi hz hsz hby rfl (by decide) v xs.length (xs.map cx) hs hown ⟨g, 0, none⟩ ys.length cap (ys.map cx) hx (by simp) hu.cellsOf.2 (cx_one ys) (by unfold maxLen; omega) (by omega) hbase ?_
    intro v' w' hown' hgrow _
    have hown2 : OwnC w' base v' (xs ++ ys) := by simpa [OwnC] using hown'
    obtain ⟨a', c', rfl⟩ := hown2.form
    simp only [List.length_append] at hown2 ⊢
    exact h a' c' w' hown2 (Chg.of_grown hgrow fun n hn _ => hn)

/-- A ring's copy comes back. -/
def RCp (w : World) (x y : Int) (xs : List (Nat × Nat)) (e : Ending) (w' : World) : Prop :=
  ∃ a c, e = .returned (.agg #[.slice a xs.length c, .int .i64 x, .int .i64 y]) ∧ OwnC w' w.heap.size (.slice a xs.length c) xs ∧ Chg (fun _ => False) w w'

set_option maxRecDepth 100000 in
set_option maxHeartbeats 2000000 in
theorem l4Copy_calls (w : World) (a : Option Addr) (c n : Nat) (x y : Int) (xs : List (Nat × Nat)) (hn : xs.length = n) (hx : n ≤ 1048576) (ho : OwnC w 0 (.slice a n c) xs) :
    Calls Try.prog 182 #[.agg #[.slice a n c, .int .i64 x, .int .i64 y]] w (RCp w x y xs) := by
  have HO := hid ho
  have HN := hid hn
  clear ho hn
  go_enter Try.func182, Try.ntmps182
  have O0 : OwnC (((w.alloc (.cells #[.slice a n c, .int .i64 x, .int .i64 y] 27)).alloc (.cells #[.slice none 0 0, .int .i64 0, .int .i64 0] 27)).drew.alloc (.cells #[] 33)) (w.heap.size + 1 + 1) (.slice (some ⟨w.heap.size + 1 + 1, 0, none⟩) 0 0) [] := by
    have h := OwnC.lit (((w.alloc (.cells #[.slice a n c, .int .i64 x, .int .i64 y] 27)).alloc (.cells #[.slice none 0 0, .int .i64 0, .int .i64 0] 27)).drew) [] 33 rfl (by simp) (Nat.le_refl _) #[] rfl
    simpa using h
  have H0 := hid O0
  have G0 := hid (((((Chg.refl (fun _ => False) w).alloc (.cells #[.slice a n c, .int .i64 x, .int .i64 y] 27)).alloc (.cells #[.slice none 0 0, .int .i64 0, .int .i64 0] 27)).drew).alloc (.cells #[] 33))
  have F0 := hid (show (((w.alloc (.cells #[.slice a n c, .int .i64 x, .int .i64 y] 27)).alloc (.cells #[.slice none 0 0, .int .i64 0, .int .i64 0] 27)).drew.alloc (.cells #[] 33)).heap[w.heap.size]? = _ from heap_old (heap_old (heap_new w _)))
  have F1 := hid (show (((w.alloc (.cells #[.slice a n c, .int .i64 x, .int .i64 y] 27)).alloc (.cells #[.slice none 0 0, .int .i64 0, .int .i64 0] 27)).drew.alloc (.cells #[] 33)).heap[w.heap.size + 1]? = _ from heap_old (heap_new' (w := w.alloc _) (b := w.heap.size + 1) (by simp)))
  clear O0
  go_wp2_with fail
  go_region_held3 (fun w' => w'.cell? ⟨w.heap.size, 0, none⟩ = some (.slice a n c) ∧ w'.cell? ⟨w.heap.size, 1, none⟩ = some (.int .i64 x) ∧ w'.cell? ⟨w.heap.size, 2, none⟩ = some (.int .i64 y)) (first | (exact ⟨cell_at (hG.heap F0.out (fun e => by simp [Value.ownBlock] at e; omega)), cell_at (hG.heap F0.out (fun e => by simp [Value.ownBlock] at e; omega)), cell_at (hG.heap F0.out (fun e => by simp [Value.ownBlock] at e; omega))⟩) | go_keep) ((refine step_app rfl _ _ (by rfl) (w.heap.size + 1 + 1) _ _ [] xs (by rfl) H0.out (by rfl) (HO.out.chg G0.out fun _ _ _ h => h) (by rw [HN.out]; simp; omega) (by simp) ?_; intro a' c' w' hO hG; have k2 := cells_at (hG.heap F1.out (fun e => by simp [Value.ownBlock] at e)); have f2 := frees_at (hG.heap F1.out (fun e => by simp [Value.ownBlock] at e)); have z2 := hG.size; simp at z2))
  go_wp2_with fail
  refine bodyPost_ret (v := .agg #[.slice a' xs.length c', .int .i64 x, .int .i64 y]) (by simp [results, Try.results182, go_sem, k2]) rfl ?_
  have g3 := ((Chg.refl (fun k => k = w.heap.size + 1) w').setCell (p := ⟨w.heap.size + 1, 0, none⟩) (.inl rfl) (.slice a' xs.length c')).setCell (p := ⟨w.heap.size + 1, 1, none⟩) (.inl rfl) (.int .i64 x) |>.setCell (p := ⟨w.heap.size + 1, 2, none⟩) (.inl rfl) (.int .i64 y)
  have hO' : OwnC w' (w.heap.size + 1 + 1) (.slice a' xs.length c') xs := by simpa using hO
  refine ⟨a', c', rfl, (hO'.chg g3 fun k hk _ e => by omega).mono (by omega), ?_⟩
  exact (G0.out.trans hG (fun k hk e => by simp [Value.ownBlock] at e; omega)).trans g3 (fun k hk e => by omega)

set_option maxRecDepth 100000 in
set_option maxHeartbeats 2000000 in
theorem l4Take_calls (w : World) (v : Value) (n : Nat) (z : Nat × Nat) (is : List (Nat × Nat)) (hr : RgOk w 0 v n (z :: is)) :
    Calls Try.prog 149 #[v] w (RTk w n z is) := by
  obtain ⟨g, c, p, xs, rfl, hn, ho, hk, hi⟩ := hr
  have HO := hid ho
  have HK := hid hk
  have HI := hid hi
  have hp : p < n := by have := hk.2.2.1; omega
  have n16 : n ≤ 16 := by have := hk.2.1; omega
  clear ho hk hi
  have hl : ¬ ((((z :: is).length : Nat) : Int) = 0) := by simp; omega
  generalize hq : (z :: is).length = q at *
  have HN := hid hn
  have HQ := hid hq
  clear hn hq
  go_enter Try.func149, Try.ntmps149
  go_wp2_with fail
  refine (l4Copy_calls _ _ _ _ _ _ xs HN.out (by omega) ((HO.out.chg (((Chg.refl (fun _ => False) w).alloc _).alloc _) fun _ _ _ h => h))).mono ?_
  rintro e w2 ⟨a2, c2, rfl, o2, g2⟩
  have F2 := hid (g2.heap (heap_new' (w := w.alloc _) (b := w.heap.size + 1) (by simp)) id)
  have z2 := g2.size
  simp at z2
  have hz : xs.getD p (0, 0) = z := by
    have h := (take_law HN.out (q := is.length) (by have := HQ.out; simp at this; rw [this]; exact HK.out)).2
    have h2 := HI.out
    have h3 : is.length + 1 = q := by have := HQ.out; simpa using this
    rw [h3, h2] at h
    simp at h
    exact h.1.symm
  obtain ⟨b2, c2', cur, hv, lb, lb2, hc2, hb2, hcell⟩ := o2.at2 HN.out (by omega)
  simp at hv
  obtain ⟨rfl, _, rfl⟩ := hv
  simp at lb
  have O2 := hid o2
  have j2 : w2.cell? ⟨b2, p, none⟩ = some (.complex .f32 z.1 z.2) := by rw [cell_at hb2, hcell p hp, hz]; rfl
  have f2 : w2.frozen? ⟨b2, p, none⟩ = false := free_at hb2
  have i0 : (0 : Int) ≤ ((p : Nat) : Int) := by omega
  have i1 : ((p : Nat) : Int) < (n : Int) := by omega
  have e1 : Int.tmod ((p : Int) + 1) (n : Int) = (((p + 1) % n : Nat) : Int) := rfl
  have hlt : (p + 1) % n < n := Nat.mod_lt _ (by omega)
  generalize hidx : (p + 1) % n = idx at *
  have HX := hid hidx
  clear hidx hcell hb2 o2 hz
  have k2 := cells_at F2.out
  have l2 := frees_at F2.out
  have G2' := fun x o => (((Chg.refl (fun k => k = b2) w2).setCell (p := ⟨b2, p, none⟩) (.inl rfl) x).alloc o).heap F2.out (show w.heap.size + 1 ≠ b2 by omega)
  have k2' := fun x o => cells_at (G2' x o)
  have l2' := fun x o => frees_at (G2' x o)
  have nb : w.heap.size + 1 ≠ b2 := by omega
  have nb' : b2 ≠ w.heap.size + 1 := by omega
  have nc : w.heap.size + 1 ≠ w2.heap.size := by omega
  have nc' : w2.heap.size ≠ w.heap.size + 1 := by omega
  have nd : w2.heap.size ≠ b2 := by omega
  have nd' : b2 ≠ w2.heap.size := by omega
  have q1 : (1 : Int) ≤ (q : Int) := by omega
  have q2 : (q : Int) ≤ 16 := by have := HK.out.2.2.2.1; have := HN.out; omega
  clear G2'
  rw [HN.out]
  go_wp2_with fail
  refine bodyPost_ret (v := .tuple #[.agg #[.slice (some ⟨b2, 0, none⟩) n c2, .int .i64 ((idx : Nat) : Int), .int .i64 ((q : Int) - 1)], .complex .f32 z.1 z.2]) (by simp [results, Try.results149, go_sem, k2']) rfl ?_
  have hil : is.length + 1 = q := by have := HQ.out; simpa using this
  have law := take_law HN.out (q := is.length) (by rw [hil]; exact HK.out)
  rw [hil, HI.out, HX.out] at law
  have law2 := (List.cons.inj law.2).2
  have OP := (HN.out ▸ O2.out : OwnC w2 _ (.slice (some ⟨b2, 0, none⟩) n c2) xs).put p (by have := HN.out; omega) (0, 0)
  have GW : Chg (fun k => k = w.heap.size + 1) (w2.setCell ⟨b2, p, none⟩ (cx (0, 0))) _ := (((((Chg.refl (fun k => k = w.heap.size + 1) (w2.setCell ⟨b2, p, none⟩ (cx (0, 0)))).alloc (.cells #[.slice (some ⟨b2, 0, none⟩) n c2, .int .i64 ((idx : Nat) : Int), .int .i64 ((q : Int) - 1)] 27)).setCell (p := ⟨w.heap.size + 1, 0, none⟩) (.inl rfl) (.slice (some ⟨b2, 0, none⟩) n c2)).setCell (p := ⟨w.heap.size + 1, 1, none⟩) (.inl rfl) (.int .i64 ((idx : Nat) : Int))).setCell (p := ⟨w.heap.size + 1, 2, none⟩) (.inl rfl) (.int .i64 ((q : Int) - 1)))
  refine ⟨_, rfl, ⟨b2, c2, idx, xs.set p (0, 0), ?_, by simpa using HN.out, (OP.chg GW fun k hk _ e => by simp at hk; omega).mono (by simp; omega), law.1, law2.symm⟩, ?_⟩
  · rw [show (q : Int) - 1 = (is.length : Int) by omega]
  · exact (((((Chg.refl (fun _ => False) w).alloc _).alloc _).trans g2 fun _ _ h => h).trans (((Chg.refl (fun k => k = b2 ∨ k = w.heap.size + 1) w2).setCell (p := ⟨b2, p, none⟩) (.inl (.inl rfl)) (cx (0, 0))).trans GW fun _ _ h => .inr h) (fun k hk e => by omega))
end Go.Proofs.Ytopkehknaclhlaa
