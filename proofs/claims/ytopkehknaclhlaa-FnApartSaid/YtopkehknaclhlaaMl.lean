/- Sorting nothing. Conditions: the slice is empty. -/
import Derived.Test.YtopkehknaclhlaaQe
import Derived.LoopN
import Derived.Test.YtopkehknaclhlaaMk
namespace Go.Proofs.Ytopkehknaclhlaa
open Go Go.RowKit

set_option maxHeartbeats 1000000 in
theorem ins0_calls (w : World) (a : Option Addr) (c : Nat) (F : Value) :
    Calls Try.prog 170 #[.slice a 0 c, .int .i64 0, .int .i64 0, F] w (fun e w' => e = .returned (.tuple #[]) ∧ w' = w) := by
  go_enter Try.func170, Try.ntmps170
  go_wp2_with fail
  refine wp_loop_rounds 1 ?_
  rw [rounds_succ]
  go_wp2_with fail
  go_end0
  exact ⟨rfl, rfl⟩

set_option maxHeartbeats 1000000 in
theorem pdq0_calls (w : World) (a : Option Addr) (c : Nat) (l : Int) (F : Value) :
    Calls Try.prog 145 #[.slice a 0 c, .int .i64 0, .int .i64 0, .int .i64 l, F] w (fun e w' => e = .returned (.tuple #[]) ∧ w' = w) := by
  go_enter Try.func145, Try.ntmps145
  go_wp2_with fail
  refine wp_loop_rounds 1 ?_
  rw [rounds_succ]
  go_wp2_with (go_at_call 170; refine (ins0_calls _ _ _ _).mono ?_; rintro e w' ⟨rfl, rfl⟩)
  refine bodyPost_ret (v := .tuple #[]) (by simp [results, Try.results145]) rfl ⟨rfl, rfl⟩

set_option maxRecDepth 100000 in
set_option maxHeartbeats 1000000 in
theorem Len64_0 (w : World) : Calls Try.prog 179 #[.int .u64 0] w (fun e w' => (∃ l : Int, e = .returned (.int .i64 l)) ∧ w' = w) := by
  go_enter Try.func179, Try.ntmps179
  go_wp2_with fail
  go_ret
  exact ⟨⟨_, rfl⟩, rfl⟩

set_option maxHeartbeats 1000000 in
theorem Len_0 (w : World) : Calls Try.prog 146 #[.int .u64 0] w (fun e w' => (∃ l : Int, e = .returned (.int .i64 l)) ∧ w' = w) := by
  go_enter Try.func146, Try.ntmps146
  go_wp2_with (go_at_call 179; refine (Len64_0 _).mono ?_; rintro e w' ⟨⟨l, rfl⟩, rfl⟩)
  go_ret
  exact ⟨⟨_, rfl⟩, rfl⟩

set_option maxHeartbeats 1000000 in
theorem SortFunc_0 (w : World) (a : Option Addr) (c : Nat) (F : Value) :
    Calls Try.prog 108 #[.slice a 0 c, F] w (fun e w' => e = .returned (.tuple #[]) ∧ w' = w) := by
  go_enter Try.func108, Try.ntmps108
  go_wp2_with (first
    | (go_at_call 146; refine (Len_0 _).mono ?_; rintro e w' ⟨⟨l, rfl⟩, rfl⟩)
    | (go_at_call 145; refine (pdq0_calls _ _ _ _ _).mono ?_; rintro e w' ⟨rfl, rfl⟩))
  go_end0
  exact ⟨rfl, rfl⟩
end Go.Proofs.Ytopkehknaclhlaa

/- The program appends to a lease. Conditions: the pool is valid. (Printed by gen_qf.py.) -/
namespace Go.Proofs.Ytopkehknaclhlaa
open Go Go.RowKit

/-- What is copied over a row. -/
theorem run_copyC {w : World} {u : Value} {ys : List (Nat × Nat)} (hu : OwnC w 0 u ys) (g p dLen dCap : Nat) (hd : ys.length ≤ dLen) (hc : ∀ j, j < ys.length → (w.cell? ⟨g, p + j, none⟩).isSome = true) (hf : ∀ j, j < ys.length → w.frozen? ⟨g, p + j, none⟩ = false) (ty : TypeId) :
    (Builtin.copy_ #[25, 25] ty #[.slice (some ⟨g, p, none⟩) dLen dCap, u]).run Try.prog w = .ok (goInt ys.length) (w.setCells g p (ys.map cx)) := by
  obtain ⟨i, hi, hz, hsz, hby⟩ := info_parts info33
  have hs : (Try.prog.info? 33).map (·.size) = some 1 := by rw [hi]; simp [hsz]
  rcases hu.block with ⟨rfl, rfl⟩ | ⟨g2, cap, cur, rfl, hg, hh, hc2, hm, hcell⟩
  · exact run_copy_none w _ _ ty 33 _ _ _ _ _ _ Try.underlying25 hs (by simp)
  · have h := run_copy_cells (P := Try.prog) w 25 25 ty 33 g p dLen dCap ⟨g2, 0, none⟩ ys.length cap (ys.map cx) Try.underlying25 hs (by simp [Nat.min_eq_left hd]) hu.cellsOf.2 (by simpa using hc) (by simpa using hf) (cx_one ys)
    simpa using h
theorem step_copyC {ops : Array Oper} {o : Oper} {a : Act} {K : Act → World → Prop} {Q : Exit → Act → World → Prop} {E : Prop} {w : World} (hgd : o.guard = none) (d x : Operand)
    (ho : o.op = .call { callee := .builtin .copy, args := #[d, x], argTypes := #[25, 25] }) (dp : Option Addr) (g p dLen dCap : Nat) (u : Value) (ys : List (Nat × Nat))
    (hd : a.eval d = .slice dp dLen dCap) (hx : a.eval x = u) (hdp : ys ≠ [] → dp = some ⟨g, p, none⟩) (hu : OwnC w 0 u ys) (hl : ys.length ≤ dLen)
    (hc : ∀ j, j < ys.length → (w.cell? ⟨g, p + j, none⟩).isSome = true) (hf : ∀ j, j < ys.length → w.frozen? ⟨g, p + j, none⟩ = false)
    (h : K (a.put o.dst (goInt ys.length)) (w.setCells g p (ys.map cx))) : if Region.wanted o (yielded ops a.tmps) = true then Oper.wp Try.prog o a w K Q else E := by
  have hw : Region.wanted o (yielded ops a.tmps) = true := by simp [Region.wanted, hgd]
  rw [if_pos hw]
  obtain ⟨ua, uc, rfl⟩ := hu.form
  have hrun : (Builtin.copy_ #[25, 25] o.type #[.slice dp dLen dCap, .slice ua ys.length uc]).run Try.prog w = .ok (goInt ys.length) (w.setCells g p (ys.map cx)) := by
    by_cases hy : ys = []
    · subst hy
      obtain ⟨i, hi, hz, hsz, hby⟩ := info_parts info33
      exact run_copy_none w _ _ o.type 33 _ _ _ _ _ _ Try.underlying25 (by rw [hi]; simp [hsz]) (by simp)
    · rw [hdp hy]
      exact run_copyC hu g p dLen dCap hl hc hf o.type
  unfold Oper.wp
  simp [execOp, ho, resolve, invoke, builtin, hd, hx, hrun, Result.andThen]
  exact h
theorem laid_cons (xs : List (Nat × Nat)) (p : Nat) (z : Nat × Nat) (ys : List (Nat × Nat)) (hp : p < xs.length) : laid (xs.set p z) (p + 1) ys = laid xs p (z :: ys) := by
  apply List.ext_getElem?
  intro j
  by_cases hj : j < xs.length
  · simp only [laid, List.length_set, List.getElem?_map, List.getElem?_range hj, Option.map_some]
    congr 1
    by_cases e : p = j
    · subst e
      rw [if_neg (by omega), if_pos (Nat.le_refl _), Nat.sub_self]
      simp [List.getD_eq_getElem?_getD, hj]
    · by_cases h2 : p + 1 ≤ j
      · rw [if_pos h2, if_pos (by omega), show j - p = (j - (p + 1)) + 1 by omega]
        simp [List.getD_eq_getElem?_getD, List.getElem?_set, e]
      · rw [if_neg h2, if_neg (by omega)]
        simp [List.getD_eq_getElem?_getD, List.getElem?_set, e]
  · simp [laid, hj]
theorem OwnC.laid {base g n c : Nat} : ∀ (ys : List (Nat × Nat)) (p : Nat) (w : World) (xs : List (Nat × Nat)), OwnC w base (.slice (some ⟨g, 0, none⟩) n c) xs → p + ys.length ≤ xs.length → OwnC (w.setCells g p (ys.map cx)) base (.slice (some ⟨g, 0, none⟩) n c) (Go.Proofs.Ytopkehknaclhlaa.laid xs p ys)
  | [], p, w, xs, h, _ => by rw [laid_nil]; exact h
  | z :: ys, p, w, xs, h, hr => by
    simp at hr
    rw [← laid_cons xs p z ys (by omega)]
    exact OwnC.laid ys (p + 1) _ _ (h.put p (by omega) z) (by rw [List.length_set]; omega)

set_option maxRecDepth 100000 in
set_option maxHeartbeats 4000000 in
theorem AppendTo_no (w : World) (s v u : Value) (xs ys : List (Nat × Nat)) (ls : List Ls) (id : Nat) (ho : OwnC w 0 s xs) (hv : OwnL w 0 v ls) (hu : OwnC w 0 u ys) (hp : POk xs.length ls) (hl : lentB ls id = false) :
    Calls Try.prog 57 #[.agg #[s, v], .int .i64 (id : Int), u] w (RPb w none) := by
  obtain ⟨a, c, rfl⟩ := ho.form
  obtain ⟨a2, c2, rfl⟩ := hv.form
  obtain ⟨ua, uc, rfl⟩ := hu.form
  have n256 := hp.nle
  have m16 := hp.len
  have A1 := ((Chg.refl (fun _ => False) w).alloc (.cells #[.slice a xs.length c, .slice a2 ls.length c2] 67)).alloc (.cells #[.slice none 0 0, .slice none 0 0] 67)
  have HO := hid (ho.chg A1 fun _ _ _ h => h)
  have HV := hid (hv.chg A1 fun _ _ _ h => h)
  have R0 := hid (show ((w.alloc (.cells #[.slice a xs.length c, .slice a2 ls.length c2] 67)).alloc (.cells #[.slice none 0 0, .slice none 0 0] 67)).heap[w.heap.size]? = _ from heap_old (heap_new w _))
  have R1 := hid (show ((w.alloc (.cells #[.slice a xs.length c, .slice a2 ls.length c2] 67)).alloc (.cells #[.slice none 0 0, .slice none 0 0] 67)).heap[w.heap.size + 1]? = _ from heap_new' (w := w.alloc _) (b := w.heap.size + 1) (by simp))
  have Z1 := hid (show ((w.alloc (.cells #[.slice a xs.length c, .slice a2 ls.length c2] 67)).alloc (.cells #[.slice none 0 0, .slice none 0 0] 67)).heap.size = w.heap.size + 2 by simp)
  have GA := hid A1
  have HP := hid hp
  have hIs := hid (fun w ho hv => IsPool_calls w (.slice a xs.length c) (.slice a2 ls.length c2) xs ls ho hv hp)
  have hLe := hid (fun w ho hv => isLent_calls w (.slice a xs.length c) (.slice a2 ls.length c2) xs ls id ho hv (by omega))
  have hCp := hid (fun w ho hv => copyPool_calls w (.slice a xs.length c) (.slice a2 ls.length c2) xs ls ho hv (by omega) (by omega))
  have HU := hid (hu.chg A1 fun _ _ _ h => h)
  clear A1 ho hv hp hu
  generalize hn : xs.length = n at *
  generalize hm : ls.length = m at *
  generalize hy : ys.length = ny at *
  have HN := hid hn
  have HM := hid hm
  have HY := hid hy
  clear hn hm hy
  rw [hl] at hLe
  clear HN HM HP hCp hl HY HU
  have kR0i := cells_at R0.out
  go_enter Try.func57, Try.ntmps57
  go_wp2_with fail
  refine wp_region_any (by kernel_rfl) ?_
  change wpAny _ _ _ _ _ _ _ (World.drew _)
  refine wpAny_ready (rs := [0]) (by kernel_rfl) (by simp) ?_
  refine AllReady.cons rfl (fun K hK => ?_) AllReady.nil
  go_simp
  refine hK _ _ ?_; clear hK K
  refine wpAny_ready (rs := [1]) (by kernel_rfl) (by simp) ?_
  refine AllReady.cons rfl (fun K hK => ?_) AllReady.nil
  go_simp
  go_wp2_with (first | (go_at_call 106; refine (hIs.out _ (HO.out.chg (Chg.refl (fun _ => False) _).drew fun _ _ _ h => h) (HV.out.chg (Chg.refl (fun _ => False) _).drew fun _ _ _ h => h)).mono ?_; rintro e w1 ⟨rfl, hG⟩; have R0b := hid (hG.heap (((Chg.refl (fun _ => False) _).drew).heap R0.out (fun h => h)) (fun h => h)); have kR0b := cells_at R0b.out; have HO1 := hid ((HO.out.chg (Chg.refl (fun _ => False) _).drew fun _ _ _ h => h).chg hG fun _ _ _ h => h); have HV1 := hid ((HV.out.chg (Chg.refl (fun _ => False) _).drew fun _ _ _ h => h).chg hG fun _ _ _ h => h); have R1b := hid (hG.heap (((Chg.refl (fun _ => False) _).drew).heap R1.out (fun h => h)) (fun h => h)); have G1 := hid (GA.out.drew.trans hG fun _ _ h => h)) | (go_at_call 107; refine (hLe.out _ HO1.out HV1.out).mono ?_; rintro e w2 ⟨rfl, hG2⟩; have R0c := hid (hG2.heap R0b.out (fun h => h)); have R1c := hid (hG2.heap R1b.out (fun h => h)); have kR0 := cells_at R0c.out; have kR1 := cells_at R1c.out; have fR1 := frees_at R1c.out; have HOc := hid (HO1.out.chg hG2 fun _ _ _ h => h); have HVc := hid (HV1.out.chg hG2 fun _ _ _ h => h); have GW := hid (G1.out.trans hG2 fun _ _ h => h); have z2 : w.heap.size + 2 ≤ w2.heap.size := (by have := Z1.out; have h1 := G1.out.size; have := hG2.size; have := hG.size; simp at *; omega)))
  refine wpAny_take (i := 2) (v := ?_) rfl (by kernel_rfl) (by kernel_rfl) (by kernel_rfl) (fun _ _ _ h => h) (Or.inl ⟨by kernel_rfl, ?_⟩) ?_
  rotate_left
  · (intro w; go_simp) <;> with_reducible rfl
  simp only [Act.put, List.setIfInBounds_toArray, List.set_cons_zero, List.set_cons_succ, List.getElem_toArray, List.getElem_cons_zero, List.getElem_cons_succ]
  refine wpAny_take (i := 3) (v := ?_) rfl (by kernel_rfl) (by kernel_rfl) (by kernel_rfl) (fun _ _ _ h => h) (Or.inl ⟨by kernel_rfl, ?_⟩) ?_
  rotate_left
  · (intro w; go_simp) <;> with_reducible rfl
  simp only [Act.put, List.setIfInBounds_toArray, List.set_cons_zero, List.set_cons_succ, List.getElem_toArray, List.getElem_cons_zero, List.getElem_cons_succ]
  refine wpAny_take (i := 5) (v := ?_) rfl (by kernel_rfl) (by kernel_rfl) (by kernel_rfl) (fun _ _ _ h => h) (Or.inl ⟨by kernel_rfl, ?_⟩) ?_
  rotate_left
  · (intro w; go_simp) <;> with_reducible rfl
  simp only [Act.put, List.setIfInBounds_toArray, List.set_cons_zero, List.set_cons_succ, List.getElem_toArray, List.getElem_cons_zero, List.getElem_cons_succ]
  refine wpAny_ready (rs := [4]) (by kernel_rfl) (by simp) ?_
  refine AllReady.cons rfl (fun K hK => ?_) AllReady.nil
  go_simp
  refine hK _ _ ?_; clear hK K
  refine wpAny_ready (rs := [6]) (by kernel_rfl) (by simp) ?_
  refine AllReady.cons rfl (fun K hK => ?_) AllReady.nil
  go_simp
  go_wp2_with (first | (go_at_call 106; refine (hIs.out _ (HO.out.chg (Chg.refl (fun _ => False) _).drew fun _ _ _ h => h) (HV.out.chg (Chg.refl (fun _ => False) _).drew fun _ _ _ h => h)).mono ?_; rintro e w1 ⟨rfl, hG⟩; have R0b := hid (hG.heap (((Chg.refl (fun _ => False) _).drew).heap R0.out (fun h => h)) (fun h => h)); have kR0b := cells_at R0b.out; have HO1 := hid ((HO.out.chg (Chg.refl (fun _ => False) _).drew fun _ _ _ h => h).chg hG fun _ _ _ h => h); have HV1 := hid ((HV.out.chg (Chg.refl (fun _ => False) _).drew fun _ _ _ h => h).chg hG fun _ _ _ h => h); have R1b := hid (hG.heap (((Chg.refl (fun _ => False) _).drew).heap R1.out (fun h => h)) (fun h => h)); have G1 := hid (GA.out.drew.trans hG fun _ _ h => h)) | (go_at_call 107; refine (hLe.out _ HO1.out HV1.out).mono ?_; rintro e w2 ⟨rfl, hG2⟩; have R0c := hid (hG2.heap R0b.out (fun h => h)); have R1c := hid (hG2.heap R1b.out (fun h => h)); have kR0 := cells_at R0c.out; have kR1 := cells_at R1c.out; have fR1 := frees_at R1c.out; have HOc := hid (HO1.out.chg hG2 fun _ _ _ h => h); have HVc := hid (HV1.out.chg hG2 fun _ _ _ h => h); have GW := hid (G1.out.trans hG2 fun _ _ h => h); have z2 : w.heap.size + 2 ≤ w2.heap.size := (by have := Z1.out; have h1 := G1.out.size; have := hG2.size; have := hG.size; simp at *; omega)))
  refine wpAny_take (i := 7) (v := ?_) rfl (by kernel_rfl) (by kernel_rfl) (by kernel_rfl) (fun _ _ _ h => h) (Or.inl ⟨by kernel_rfl, ?_⟩) ?_
  rotate_left
  · (intro w; go_simp) <;> with_reducible rfl
  simp only [Act.put, List.setIfInBounds_toArray, List.set_cons_zero, List.set_cons_succ, List.getElem_toArray, List.getElem_cons_zero, List.getElem_cons_succ]
  refine wpAny_take (i := 8) (v := ?_) rfl (by kernel_rfl) (by kernel_rfl) (by kernel_rfl) (fun _ _ _ h => h) (Or.inl ⟨by kernel_rfl, ?_⟩) ?_
  rotate_left
  · (intro w; go_simp) <;> with_reducible rfl
  simp only [Act.put, List.setIfInBounds_toArray, List.set_cons_zero, List.set_cons_succ, List.getElem_toArray, List.getElem_cons_zero, List.getElem_cons_succ]
  refine wpAny_take (i := 9) (v := ?_) rfl (by kernel_rfl) (by kernel_rfl) (by kernel_rfl) (fun _ _ _ h => h) (Or.inl ⟨by kernel_rfl, ?_⟩) ?_
  rotate_left
  · (intro w; go_simp) <;> with_reducible rfl
  simp only [Act.put, List.setIfInBounds_toArray, List.set_cons_zero, List.set_cons_succ, List.getElem_toArray, List.getElem_cons_zero, List.getElem_cons_succ]
  refine wpAny_take (i := 10) (v := undef) rfl (by kernel_rfl) (by kernel_rfl) (by kernel_rfl) (fun _ _ _ h => h) (Or.inr ⟨by kernel_rfl, rfl⟩) ?_
  simp only [Act.put, List.setIfInBounds_toArray, List.set_cons_zero, List.set_cons_succ, List.getElem_toArray, List.getElem_cons_zero, List.getElem_cons_succ]
  refine wpAny_take (i := 11) (v := undef) rfl (by kernel_rfl) (by kernel_rfl) (by kernel_rfl) (fun _ _ _ h => h) (Or.inr ⟨by kernel_rfl, rfl⟩) ?_
  simp only [Act.put, List.setIfInBounds_toArray, List.set_cons_zero, List.set_cons_succ, List.getElem_toArray, List.getElem_cons_zero, List.getElem_cons_succ]
  refine wpAny_take (i := 12) (v := undef) rfl (by kernel_rfl) (by kernel_rfl) (by kernel_rfl) (fun _ _ _ h => h) (Or.inr ⟨by kernel_rfl, rfl⟩) ?_
  simp only [Act.put, List.setIfInBounds_toArray, List.set_cons_zero, List.set_cons_succ, List.getElem_toArray, List.getElem_cons_zero, List.getElem_cons_succ]
  refine wpAny_take (i := 13) (v := undef) rfl (by kernel_rfl) (by kernel_rfl) (by kernel_rfl) (fun _ _ _ h => h) (Or.inr ⟨by kernel_rfl, rfl⟩) ?_
  simp only [Act.put, List.setIfInBounds_toArray, List.set_cons_zero, List.set_cons_succ, List.getElem_toArray, List.getElem_cons_zero, List.getElem_cons_succ]
  refine wpAny_take (i := 14) (v := undef) rfl (by kernel_rfl) (by kernel_rfl) (by kernel_rfl) (fun _ _ _ h => h) (Or.inr ⟨by kernel_rfl, rfl⟩) ?_
  simp only [Act.put, List.setIfInBounds_toArray, List.set_cons_zero, List.set_cons_succ, List.getElem_toArray, List.getElem_cons_zero, List.getElem_cons_succ]
  refine wpAny_take (i := 15) (v := undef) rfl (by kernel_rfl) (by kernel_rfl) (by kernel_rfl) (fun _ _ _ h => h) (Or.inr ⟨by kernel_rfl, rfl⟩) ?_
  simp only [Act.put, List.setIfInBounds_toArray, List.set_cons_zero, List.set_cons_succ, List.getElem_toArray, List.getElem_cons_zero, List.getElem_cons_succ]
  refine wpAny_take (i := 16) (v := undef) rfl (by kernel_rfl) (by kernel_rfl) (by kernel_rfl) (fun _ _ _ h => h) (Or.inr ⟨by kernel_rfl, rfl⟩) ?_
  simp only [Act.put, List.setIfInBounds_toArray, List.set_cons_zero, List.set_cons_succ, List.getElem_toArray, List.getElem_cons_zero, List.getElem_cons_succ]
  refine wpAny_take (i := 17) (v := undef) rfl (by kernel_rfl) (by kernel_rfl) (by kernel_rfl) (fun _ _ _ h => h) (Or.inr ⟨by kernel_rfl, rfl⟩) ?_
  simp only [Act.put, List.setIfInBounds_toArray, List.set_cons_zero, List.set_cons_succ, List.getElem_toArray, List.getElem_cons_zero, List.getElem_cons_succ]
  refine wpAny_take (i := 18) (v := undef) rfl (by kernel_rfl) (by kernel_rfl) (by kernel_rfl) (fun _ _ _ h => h) (Or.inr ⟨by kernel_rfl, rfl⟩) ?_
  simp only [Act.put, List.setIfInBounds_toArray, List.set_cons_zero, List.set_cons_succ, List.getElem_toArray, List.getElem_cons_zero, List.getElem_cons_succ]
  refine wpAny_take (i := 19) (v := undef) rfl (by kernel_rfl) (by kernel_rfl) (by kernel_rfl) (fun _ _ _ h => h) (Or.inr ⟨by kernel_rfl, rfl⟩) ?_
  simp only [Act.put, List.setIfInBounds_toArray, List.set_cons_zero, List.set_cons_succ, List.getElem_toArray, List.getElem_cons_zero, List.getElem_cons_succ]
  refine wpAny_take (i := 20) (v := undef) rfl (by kernel_rfl) (by kernel_rfl) (by kernel_rfl) (fun _ _ _ h => h) (Or.inr ⟨by kernel_rfl, rfl⟩) ?_
  simp only [Act.put, List.setIfInBounds_toArray, List.set_cons_zero, List.set_cons_succ, List.getElem_toArray, List.getElem_cons_zero, List.getElem_cons_succ]
  refine wpAny_take (i := 21) (v := undef) rfl (by kernel_rfl) (by kernel_rfl) (by kernel_rfl) (fun _ _ _ h => h) (Or.inr ⟨by kernel_rfl, rfl⟩) ?_
  simp only [Act.put, List.setIfInBounds_toArray, List.set_cons_zero, List.set_cons_succ, List.getElem_toArray, List.getElem_cons_zero, List.getElem_cons_succ]
  refine wpAny_take (i := 22) (v := undef) rfl (by kernel_rfl) (by kernel_rfl) (by kernel_rfl) (fun _ _ _ h => h) (Or.inr ⟨by kernel_rfl, rfl⟩) ?_
  simp only [Act.put, List.setIfInBounds_toArray, List.set_cons_zero, List.set_cons_succ, List.getElem_toArray, List.getElem_cons_zero, List.getElem_cons_succ]
  refine wpAny_take (i := 23) (v := undef) rfl (by kernel_rfl) (by kernel_rfl) (by kernel_rfl) (fun _ _ _ h => h) (Or.inr ⟨by kernel_rfl, rfl⟩) ?_
  simp only [Act.put, List.setIfInBounds_toArray, List.set_cons_zero, List.set_cons_succ, List.getElem_toArray, List.getElem_cons_zero, List.getElem_cons_succ]
  refine wpAny_take (i := 24) (v := undef) rfl (by kernel_rfl) (by kernel_rfl) (by kernel_rfl) (fun _ _ _ h => h) (Or.inr ⟨by kernel_rfl, rfl⟩) ?_
  simp only [Act.put, List.setIfInBounds_toArray, List.set_cons_zero, List.set_cons_succ, List.getElem_toArray, List.getElem_cons_zero, List.getElem_cons_succ]
  refine wpAny_take (i := 25) (v := undef) rfl (by kernel_rfl) (by kernel_rfl) (by kernel_rfl) (fun _ _ _ h => h) (Or.inr ⟨by kernel_rfl, rfl⟩) ?_
  simp only [Act.put, List.setIfInBounds_toArray, List.set_cons_zero, List.set_cons_succ, List.getElem_toArray, List.getElem_cons_zero, List.getElem_cons_succ]
  refine wpAny_take (i := 26) (v := ?_) rfl (by kernel_rfl) (by kernel_rfl) (by kernel_rfl) (fun _ _ _ h => h) (Or.inl ⟨by kernel_rfl, ?_⟩) ?_
  rotate_left
  · (intro w; go_simp) <;> with_reducible rfl
  simp only [Act.put, List.setIfInBounds_toArray, List.set_cons_zero, List.set_cons_succ, List.getElem_toArray, List.getElem_cons_zero, List.getElem_cons_succ]
  refine wpAny_done (by kernel_rfl) ?_ _
  go_wp2_with fail
  refine bodyPost_ret (results_row_tmp (by rfl) _ _ _ (w.heap.size + 1) _ (.bool false) rfl (load_pool (heap_row2 R1c.out _ _) rfl) rfl) rfl ⟨?_, rfl⟩
  exact GW.out.trans (chg_row2 _ (w.heap.size + 1) (.slice none 0 0) (.slice none 0 0)) (fun j hj (h : j = w.heap.size + 1) => by omega)

set_option maxRecDepth 100000 in
set_option maxHeartbeats 4000000 in
theorem AppendTo_yes (w : World) (s v u : Value) (xs ys : List (Nat × Nat)) (ls : List Ls) (id : Nat) (ho : OwnC w 0 s xs) (hv : OwnL w 0 v ls) (hu : OwnC w 0 u ys) (hp : POk xs.length ls) (hl : lentB ls id = true) (hy9 : ys.length ≤ 1000) :
    Calls Try.prog 57 #[.agg #[s, v], .int .i64 (id : Int), u] w (RPb w (appP xs ls id ys)) := by
  obtain ⟨a, c, rfl⟩ := ho.form
  obtain ⟨a2, c2, rfl⟩ := hv.form
  obtain ⟨ua, uc, rfl⟩ := hu.form
  have n256 := hp.nle
  have m16 := hp.len
  have A1 := ((Chg.refl (fun _ => False) w).alloc (.cells #[.slice a xs.length c, .slice a2 ls.length c2] 67)).alloc (.cells #[.slice none 0 0, .slice none 0 0] 67)
  have HO := hid (ho.chg A1 fun _ _ _ h => h)
  have HV := hid (hv.chg A1 fun _ _ _ h => h)
  have R0 := hid (show ((w.alloc (.cells #[.slice a xs.length c, .slice a2 ls.length c2] 67)).alloc (.cells #[.slice none 0 0, .slice none 0 0] 67)).heap[w.heap.size]? = _ from heap_old (heap_new w _))
  have R1 := hid (show ((w.alloc (.cells #[.slice a xs.length c, .slice a2 ls.length c2] 67)).alloc (.cells #[.slice none 0 0, .slice none 0 0] 67)).heap[w.heap.size + 1]? = _ from heap_new' (w := w.alloc _) (b := w.heap.size + 1) (by simp))
  have Z1 := hid (show ((w.alloc (.cells #[.slice a xs.length c, .slice a2 ls.length c2] 67)).alloc (.cells #[.slice none 0 0, .slice none 0 0] 67)).heap.size = w.heap.size + 2 by simp)
  have GA := hid A1
  have HP := hid hp
  have hIs := hid (fun w ho hv => IsPool_calls w (.slice a xs.length c) (.slice a2 ls.length c2) xs ls ho hv hp)
  have hLe := hid (fun w ho hv => isLent_calls w (.slice a xs.length c) (.slice a2 ls.length c2) xs ls id ho hv (by omega))
  have hCp := hid (fun w ho hv => copyPool_calls w (.slice a xs.length c) (.slice a2 ls.length c2) xs ls ho hv (by omega) (by omega))
  have HU := hid (hu.chg A1 fun _ _ _ h => h)
  clear A1 ho hv hp hu
  generalize hn : xs.length = n at *
  generalize hm : ls.length = m at *
  generalize hy : ys.length = ny at *
  have HN := hid hn
  have HM := hid hm
  have HY := hid hy
  clear hn hm hy
  rw [hl] at hLe
  obtain ⟨l, hlk, hlf, hid2⟩ := lentB_true hl
  rw [HM.out] at hid2
  have HLK := hid hlk
  have HLF := hid hlf
  have hok := HP.out.ok l (List.mem_of_getElem? hlk)
  rcases hok with ⟨h, _⟩ | ⟨_, h1, h2, h3⟩
  · rw [hlf] at h; cases h
  have i1 : (id : Int) < (m : Int) := by omega
  obtain ⟨g0, cc, cur, hv2, hg0, hg1, hgc, hgh, l', hlk', j0, j1, j2, j3⟩ := OwnL.lease HV.out HM.out hid2
  simp at hv2
  obtain ⟨rfl, rfl⟩ := hv2
  obtain rfl : l = l' := by rw [hlk] at hlk'; exact Option.some.inj hlk'
  rw [hlf] at j3
  have hpos : 1 ≤ l.rm := h1
  generalize hst : l.st = p at *
  generalize hct : l.ct = q at *
  generalize hrm : l.rm = r at *
  have HST := hid hst
  have HCT := hid hct
  have HRM := hid hrm
  have HAP : Hid (appP xs ls id ys = if q + ny ≤ r then some (laid xs (p + q) ys, ls.set id ⟨p, q + ny, r, false⟩) else none) := by
    unfold appP
    rw [HLK.out]
    show (if l.fr = false ∧ l.ct + ys.length ≤ l.rm then some (laid xs (l.st + l.ct) ys, ls.set id ⟨l.st, l.ct + ys.length, l.rm, false⟩) else none) = _
    rw [HST.out, HCT.out, HRM.out, HY.out, HLF.out]
    simp
  clear hl hlk hlk' hlf hgh hst hct hrm
  have jd1 : ((w.alloc (.cells #[.slice a n c, .slice (some ⟨g0, 0, none⟩) m c2] 67)).alloc (.cells #[.slice none 0 0, .slice none 0 0] 67)).drew.cell? ⟨g0, id * 4 + 1, none⟩ = some (.int .i64 (q : Int)) := j1
  have jd2 : ((w.alloc (.cells #[.slice a n c, .slice (some ⟨g0, 0, none⟩) m c2] 67)).alloc (.cells #[.slice none 0 0, .slice none 0 0] 67)).drew.cell? ⟨g0, id * 4 + 2, none⟩ = some (.int .i64 (r : Int)) := j2
  have bd0 : ((w.alloc (.cells #[.slice a n c, .slice (some ⟨g0, 0, none⟩) m c2] 67)).alloc (.cells #[.slice none 0 0, .slice none 0 0] 67)).drew.cell? ⟨w.heap.size, 0, none⟩ = some (.slice a n c) := cell_at R0.out
  have bd1 : ((w.alloc (.cells #[.slice a n c, .slice (some ⟨g0, 0, none⟩) m c2] 67)).alloc (.cells #[.slice none 0 0, .slice none 0 0] 67)).drew.cell? ⟨w.heap.size, 1, none⟩ = some (.slice (some ⟨g0, 0, none⟩) m c2) := cell_at R0.out
  go_enter Try.func57, Try.ntmps57
  go_wp2_with fail
  go_region_held3 (fun wx => wx.cell? ⟨w.heap.size, 0, none⟩ = some (.slice a n c) ∧ wx.cell? ⟨w.heap.size, 1, none⟩ = some (.slice (some ⟨g0, 0, none⟩) m c2) ∧ wx.cell? ⟨g0, id * 4 + 1, none⟩ = some (.int .i64 (q : Int)) ∧ wx.cell? ⟨g0, id * 4 + 2, none⟩ = some (.int .i64 (r : Int))) (first | (refine ⟨?_, ?_, ?_, ?_⟩ <;> with_reducible assumption) | go_keep) (first | (go_at_call 106; refine (hIs.out _ (HO.out.chg (Chg.refl (fun _ => False) _).drew fun _ _ _ h => h) (HV.out.chg (Chg.refl (fun _ => False) _).drew fun _ _ _ h => h)).mono ?_; rintro e w1 ⟨rfl, hG⟩; have R0b := hid (hG.heap (((Chg.refl (fun _ => False) _).drew).heap R0.out (fun h => h)) (fun h => h)); have kR0b := cells_at R0b.out; have HO1 := hid ((HO.out.chg (Chg.refl (fun _ => False) _).drew fun _ _ _ h => h).chg hG fun _ _ _ h => h); have HV1 := hid ((HV.out.chg (Chg.refl (fun _ => False) _).drew fun _ _ _ h => h).chg hG fun _ _ _ h => h); have R1b := hid (hG.heap (((Chg.refl (fun _ => False) _).drew).heap R1.out (fun h => h)) (fun h => h)); have G1 := hid (GA.out.drew.trans hG fun _ _ h => h); have x0 : w1.cell? ⟨w.heap.size, 0, none⟩ = some (.slice a n c) := cell_at R0b.out; have x1 : w1.cell? ⟨w.heap.size, 1, none⟩ = some (.slice (some ⟨g0, 0, none⟩) m c2) := cell_at R0b.out; have x2 := hG.cell jd1 (fun h => h); have x3 := hG.cell jd2 (fun h => h)) | (go_at_call 107; refine (hLe.out _ HO1.out HV1.out).mono ?_; rintro e w2 ⟨rfl, hG2⟩; have R0c := hid (hG2.heap R0b.out (fun h => h)); have R1c := hid (hG2.heap R1b.out (fun h => h)); have HOc := hid (HO1.out.chg hG2 fun _ _ _ h => h); have HVc := hid (HV1.out.chg hG2 fun _ _ _ h => h); have GW := hid (G1.out.trans hG2 fun _ _ h => h); have z2 : w.heap.size + 2 ≤ w2.heap.size := (by have := Z1.out; have h1 := G1.out.size; have := hG2.size; have := hG.size; simp at *; omega); have y0 : w2.cell? ⟨w.heap.size, 0, none⟩ = some (.slice a n c) := cell_at R0c.out; have y1 : w2.cell? ⟨w.heap.size, 1, none⟩ = some (.slice (some ⟨g0, 0, none⟩) m c2) := cell_at R0c.out; have y2 := hG2.cell x2 (fun h => h); have y3 := hG2.cell x3 (fun h => h)))
  have hw0 : IntKind.i64.wrap ((r : Int) - (q : Int)) = (r : Int) - (q : Int) := by
    rw [IntKind.wrap_i64]
    omega
  rw [hw0]
  have HUc := hid (((HU.out.chg (Chg.refl (fun _ => False) _).drew fun _ _ _ h => h).chg hG fun _ _ _ h => h).chg hG2 fun _ _ _ h => h)
  clear hw0 x0 x1 x2 x3 y0 y1 y2 y3 j0 j1 j2 j3 jd1 jd2 bd0 bd1 hG hG2 HU
  have kR0 := cells_at R0c.out
  have kR1 := cells_at R1c.out
  have fR1 := frees_at R1c.out
  by_cases hfit : q + ny ≤ r
  · have b1 : ¬ ((r : Int) - (q : Int) < (ny : Int)) := by omega
    have HAP2 := hid (show appP xs ls id ys = _ from HAP.out.trans (if_pos hfit))
    clear HAP
    go_wp2_with fail
    refine (hCp.out _ HOc.out HVc.out).mono ?_
    rintro e w3 ⟨a3, c3, a4, c4, rfl, hO3, hV3, hG3⟩
    rw [HN.out] at hO3
    rw [HM.out] at hV3
    rw [HN.out, HM.out]
    have zz3 := hG3.size
    have A4 := (Chg.refl (fun _ => False) w3).alloc (.cells #[.slice a3 n c3, .slice a4 m c4] 67)
    have R0d := hid (A4.heap (hG3.heap R0c.out (fun h => h)) (fun h => h))
    have R1d := hid (A4.heap (hG3.heap R1c.out (fun h => h)) (fun h => h))
    have R5 := hid (heap_new w3 (.cells #[.slice a3 n c3, .slice a4 m c4] 67))
    have HO4 := hid (hO3.chg A4 fun _ _ _ h => h)
    have HV4 := hid (hV3.chg A4 fun _ _ _ h => h)
    have HB3 := hid (fun g (h : some g = (Value.slice a3 n c3).ownBlock) => hO3.own_lt h)
    have HB4 := hid (fun g (h : some g = (Value.slice a4 m c4).ownBlock) => hV3.own_lt h)
    have GW4 := hid ((GW.out.trans hG3 fun _ _ h => h).trans A4 fun _ _ h => h)
    have z5 : w3.heap.size < (w3.alloc (.cells #[.slice a3 n c3, .slice a4 m c4] 67)).heap.size := by simp
    have hG3k := hG3
    clear A4 hG3 hO3 hV3
    go_upto_region 4 with fail
    have HU4 := hid ((HUc.out.chg hG3k fun _ _ _ h => h).chg ((Chg.refl (fun _ => False) w3).alloc (.cells #[.slice a3 n c3, .slice a4 m c4] 67)) fun _ _ _ h => h)
    have HUB := hid (fun g (h : some g = (Value.slice ua ny uc).ownBlock) => (HUc.out.own_lt h).2)
    clear hG3k HUc
    generalize hw4 : w3.alloc (.cells #[.slice a3 n c3, .slice a4 m c4] 67) = w4 at *
    clear hw4
    obtain ⟨g4, cc, cur, hv2, hg0, hg1, hgc, hgh, l2, hlk, j0, j1, j2, j3⟩ := OwnL.lease HV4.out HM.out hid2
    simp at hv2
    obtain ⟨rfl, rfl⟩ := hv2
    obtain rfl : l = l2 := by rw [HLK.out] at hlk; exact Option.some.inj hlk
    rw [HST.out] at j0
    rw [HCT.out] at j1
    have fg := frees_at hgh
    have kR5 := cells_at R5.out
    have hB4 := HB4.out g4 rfl
    clear hlk hgh hg1 j2 j3
    go_upto_region 5 with fail
    obtain ⟨g3, cc3, cur3, hv3, hg30, hg31, hgc3, hgh3, hcl3⟩ := HO4.out.at2 (n := n) HN.out (by omega)
    simp at hv3
    obtain ⟨rfl, rfl⟩ := hv3
    have fg3 := frees_at hgh3
    have hB3 := HB3.out g3 rfl
    have s0 : IntKind.i64.wrap ((p : Int) + (q : Int)) = (p : Int) + (q : Int) := by rw [IntKind.wrap_i64]; omega
    have s1 : (0 : Int) ≤ (p : Int) + (q : Int) := by omega
    have s2 : (p : Int) + (q : Int) ≤ (n : Int) := by omega
    have s3 : (n : Int) ≤ (c3 : Int) := by omega
    have HU5 := hid (HU4.out.chg (Chg.refl (fun _ => False) w4).drew fun _ _ _ h => h)
    have hcl5 : ys.length ≤ n - (p + q) := by have := HY.out; omega
    have hdp5 : ys ≠ [] → (if c3 = ((p : Int) + (q : Int)).toNat then some ⟨g3, 0, none⟩ else some ⟨g3, ((p : Int) + (q : Int)).toNat, none⟩ : Option Addr) = some ⟨g3, p + q, none⟩ := fun hne => by
      have h1 := List.length_pos_iff.mpr hne
      rw [show ((p : Int) + (q : Int)).toNat = p + q by omega, if_neg (by omega)]
    have hcc5 : ∀ j, j < ys.length → (w4.drew.cell? ⟨g3, p + q + j, none⟩).isSome = true := fun j hj => by show (w4.cell? _).isSome = true; rw [cell_at hgh3, hcl3 _ (by have := HY.out; omega)]; rfl
    have hcf5 : ∀ j, j < ys.length → w4.drew.frozen? ⟨g3, p + q + j, none⟩ = false := fun j _ => fg3 _
    have d0 : w4.drew.cell? ⟨w3.heap.size, 0, none⟩ = some (.slice (some ⟨g3, 0, none⟩) n c3) := cell_at R5.out
    have CZ := hid ((Chg.refl (fun j => j = g3) w4).drew.trans (chg_setCells g3 (ys.map cx) (p + q) w4.drew) fun _ _ h => h)
    have e0 := CZ.out.cell (show w4.cell? ⟨w3.heap.size, 0, none⟩ = some (.slice (some ⟨g3, 0, none⟩) n c3) from cell_at R5.out) (by show ¬ (w3.heap.size = g3); omega)
    have n34 : g4 ≠ g3 := fun e => by subst e; exact apartC (by decide) HO4.out HV4.out rfl rfl
    have e1 := CZ.out.cell j0 n34
    have e2 := CZ.out.cell j1 n34
    have jd0 : w4.drew.cell? ⟨g4, id * 4, none⟩ = some (.int .i64 (p : Int)) := j0
    have jd1 : w4.drew.cell? ⟨g4, id * 4 + 1, none⟩ = some (.int .i64 (q : Int)) := j1
    clear kR5
    go_region_held3 (fun wx => wx.cell? ⟨w3.heap.size, 0, none⟩ = some (.slice (some ⟨g3, 0, none⟩) n c3) ∧ wx.cell? ⟨g4, id * 4, none⟩ = some (.int .i64 (p : Int)) ∧ wx.cell? ⟨g4, id * 4 + 1, none⟩ = some (.int .i64 (q : Int))) (first | (refine ⟨?_, ?_, ?_⟩ <;> with_reducible assumption) | go_keep) (refine step_copyC rfl _ _ (by rfl) _ g3 (p + q) _ _ _ ys (by rfl) (by rfl) hdp5 HU5.out (by omega) hcc5 hcf5 ?_)
    generalize (if c3 = ((p : Int) + (q : Int)).toNat then some (⟨g3, 0, none⟩ : Addr) else some ⟨g3, ((p : Int) + (q : Int)).toNat, none⟩) = dpv at *
    have O6' := OwnC.laid ys (p + q) w4.drew xs (HO4.out.chg (Chg.refl (fun _ => False) w4).drew fun _ _ _ h => h) (by have := HN.out; have := HY.out; omega)
    have O6 := hid O6'
    have V6 := hid (HV4.out.chgN CZ.out (fun gg h1 h2 => by subst h2; exact apartC (by decide) HO4.out HV4.out rfl h1))
    have R6 := hid (CZ.out.heap R5.out (by omega))
    have Q6 := hid (CZ.out.heap R1d.out (by omega))
    have G6 := hid (GW4.out.trans CZ.out (fun j hj (e : j = g3) => by omega))
    clear O6' CZ HU5 hcl5 hcc5 hcf5 hdp5 d0 e0 e1 e2 jd0 jd1 j0 j1 fg fg3 s0 s1 s2 s3 hcl3 hgh3 HO4 HV4 R5 R0d R1d GW4 HU4
    generalize w4.drew.setCells g3 (p + q) (ys.map cx) = w6 at *
    obtain ⟨g, cc, cur, hv2, hg0', hg1, hgc', hgh, l2, hlk, j0, j1, j2, j3⟩ := OwnL.lease V6.out HM.out hid2
    simp at hv2
    obtain ⟨rfl, rfl⟩ := hv2
    obtain rfl : l = l2 := by rw [HLK.out] at hlk; exact Option.some.inj hlk
    rw [HST.out] at j0
    rw [HCT.out] at j1
    have fg := frees_at hgh
    clear hlk hgh hg1 j2 j3
    have C4 := (Chg.refl (fun j => j = g4) w6).setCell (p := ⟨g4, id * 4 + 1, none⟩) (.inl rfl) (.int .i64 ((q : Int) + (ny : Int)))
    have Q7 := hid (C4.heap Q6.out (by omega))
    have R7 := hid (C4.heap R6.out (by omega))
    have O7 := hid (O6.out.chgN C4 (fun j e1 e2 => by
      subst e2
      exact apartC (by decide) O6.out V6.out e1 rfl))
    have V7 : Hid (OwnL (w6.setCell ⟨g4, id * 4 + 1, none⟩ (.int .i64 ((q : Int) + (ny : Int)))) w2.heap.size (.slice (some ⟨g4, 0, none⟩) m c4) (ls.set id ⟨p, q + ny, r, false⟩)) := by
      have h := OwnL.putCt V6.out id (q + ny) l HLK.out
      rw [HST.out, HRM.out, HLF.out] at h
      rw [show ((q : Int) + (ny : Int)) = ((q + ny : Nat) : Int) by omega]
      exact h
    have G7 := hid (G6.out.trans C4 (fun j hj (h : j = g4) => by omega))
    clear C4
    go_upto_region 7 with fail
    generalize w6.setCell ⟨g4, id * 4 + 1, none⟩ (.int .i64 ((q : Int) + (ny : Int))) = w7 at *
    clear j0 j1 fg
    have kR7 := cells_at R7.out
    have kQ7 := cells_at Q7.out
    have fQ7 := frees_at Q7.out
    go_wp2_with fail
    refine bodyPost_ret (results_row_tmp (by rfl) _ _ _ (w.heap.size + 1) _ (.bool true) rfl (load_pool (heap_row2 Q7.out _ _) rfl) rfl) rfl ⟨?_, ?_⟩
    · exact G7.out.trans (chg_row2 _ (w.heap.size + 1) (.slice (some ⟨g3, 0, none⟩) n c3) (.slice (some ⟨g4, 0, none⟩) m c4)) (fun j hj (h : j = w.heap.size + 1) => by omega)
    · rw [HAP2.out]
      have CR := chg_row2 w7 (w.heap.size + 1) (.slice (some ⟨g3, 0, none⟩) n c3) (.slice (some ⟨g4, 0, none⟩) m c4)
      have o1 := O7.out.chgN CR (fun j e1 (e2 : j = w.heap.size + 1) => by simp [Value.ownBlock] at e1; omega)
      have o2 := OwnR.chgN V7.out CR (fun j e1 (e2 : j = w.heap.size + 1) => by simp [Value.ownBlock] at e1; omega)
      exact ⟨some ⟨g3, 0, none⟩, c3, some ⟨g4, 0, none⟩, c4, by simp [laid_len, HN.out, HM.out], by simpa [laid_len, HN.out] using o1.mono (by omega), by simpa [HM.out] using OwnR.mono o2 (by omega)⟩
  · have b1 : ((r : Int) - (q : Int) < (ny : Int)) := by omega
    have HAP2 := hid (show appP xs ls id ys = _ from HAP.out.trans (if_neg hfit))
    clear HAP
    go_wp2_with fail
    refine bodyPost_ret (results_row_tmp (by rfl) _ _ _ (w.heap.size + 1) _ (.bool false) rfl (load_pool (heap_row2 R1c.out _ _) rfl) rfl) rfl ⟨?_, ?_⟩
    · exact GW.out.trans (chg_row2 _ (w.heap.size + 1) (.slice none 0 0) (.slice none 0 0)) (fun j hj (h : j = w.heap.size + 1) => by omega)
    · rw [HAP2.out]

theorem appP_none {xs : List (Nat × Nat)} {ls : List Ls} {id : Nat} {ys : List (Nat × Nat)} (hl : lentB ls id = false) : appP xs ls id ys = none := by
  unfold appP
  unfold lentB at hl
  cases hq : ls[id]? with
  | none => rfl
  | some l =>
    rw [hq] at hl
    simp at hl
    simp [hl]
theorem AppendTo_calls (w : World) (s v u : Value) (xs ys : List (Nat × Nat)) (ls : List Ls) (id : Nat) (ho : OwnC w 0 s xs) (hv : OwnL w 0 v ls) (hu : OwnC w 0 u ys) (hp : POk xs.length ls) (hy9 : ys.length ≤ 1000) :
    Calls Try.prog 57 #[.agg #[s, v], .int .i64 (id : Int), u] w (RPb w (appP xs ls id ys)) := by
  cases hl : lentB ls id
  · rw [appP_none hl]
    exact AppendTo_no w s v u xs ys ls id ho hv hu hp hl
  · exact AppendTo_yes w s v u xs ys ls id ho hv hu hp hl hy9
end Go.Proofs.Ytopkehknaclhlaa

/- What compacting wants of memory: sorting any list of ids, a lease's start that is stored, a copy out of the middle of a row. Conditions: as each says. -/
namespace Go.Proofs.Ytopkehknaclhlaa
open Go Go.RowKit

theorem fin_back {m : Nat} : ∀ (ids : List Nat), (∀ i ∈ ids, i < m + 1) → (ids.map fun i => Fin.ofNat (m + 1) i).map (fun i => (i.val : Int)) = ids.map fun i : Nat => (i : Int)
  | [], _ => rfl
  | i :: ids, h => by
    rw [List.map_cons, List.map_cons, List.map_cons, fin_back ids fun j hj => h j (List.mem_cons_of_mem _ hj)]
    congr 1
    show ((i % (m + 1) : Nat) : Int) = (i : Int)
    rw [Nat.mod_eq_of_lt (h i List.mem_cons_self)]

/-- Sorting ids of leases: a permutation stands in the same row. -/
theorem sort_any (w : World) (bp blk cap base : Nat) (s v : Value) (ls : List Ls) (box : w.heap[bp]? = some (.cells #[s, v] 67 (0, 0))) (hv : OwnL w 0 v ls) (hst : ∀ l ∈ ls, l.st ≤ 256)
    (ids : List Nat) (hin : ∀ i ∈ ids, i < ls.length) (hn : ids.length ≤ 1000) (hb : OwnN w base (.slice (some ⟨blk, 0, none⟩) ids.length cap) (ids.map fun i : Nat => (i : Int))) (hbp : bp ≠ blk) (hvb : ∀ g, some g = v.ownBlock → g ≠ blk) :
    Calls Try.prog 108 #[.slice (some ⟨blk, 0, none⟩) ids.length cap, .func (.func 109) #[] #[.pointer (some ⟨bp, 0, none⟩)]] w (fun e w' =>
      e = .returned (.tuple #[]) ∧ Chg (fun j => j = blk) w w' ∧ ∃ ids' : List Nat, ids'.Perm ids ∧ OwnN w' base (.slice (some ⟨blk, 0, none⟩) ids.length cap) (ids'.map fun i : Nat => (i : Int))) := by
  rcases Nat.eq_zero_or_pos ls.length with h0 | h0
  · have e : ids = [] := by
      cases ids with
      | nil => rfl
      | cons i ids => have := hin i List.mem_cons_self; omega
    subst e
    refine (SortFunc_0 w _ _ _).mono ?_
    rintro e w' ⟨rfl, rfl⟩
    exact ⟨rfl, Chg.refl _ _, [], List.Perm.refl _, hb⟩
  · obtain ⟨m, hm⟩ : ∃ m, ls.length = m + 1 := ⟨ls.length - 1, by omega⟩
    have e := fin_back (m := m) ids fun i hi => by have := hin i hi; omega
    have h := sort_calls w bp blk cap m base s v ls hm box hv hst (ids.map fun i => Fin.ofNat (m + 1) i) (by simpa using hn) (by rw [e, List.length_map]; exact hb) hbp hvb
    rw [List.length_map] at h
    refine h.mono ?_
    rintro x w' ⟨rfl, G, ids', hP, hO⟩
    refine ⟨rfl, G, ids'.map Fin.val, ?_, ?_⟩
    · have h2 := hP.map (fun i : Fin (m + 1) => i.val)
      refine h2.trans ?_
      rw [List.map_map]
      have : ∀ (ids : List Nat), (∀ i ∈ ids, i < m + 1) → ids.map ((fun i : Fin (m + 1) => i.val) ∘ fun i => Fin.ofNat (m + 1) i) = ids := by
        intro ids
        induction ids with
        | nil => intro _; rfl
        | cons i ids ih =>
          intro hi
          rw [List.map_cons, ih fun j hj => hi j (List.mem_cons_of_mem _ hj)]
          congr 1
          exact Nat.mod_eq_of_lt (hi i List.mem_cons_self)
      rw [this ids fun i hi => by have := hin i hi; omega]
    · rw [List.map_map]
      exact hO

/-- Sorting ids of leases, whatever the slice of ids is. -/
theorem sort_own (w : World) (bp base cap : Nat) (a : Option Addr) (s v : Value) (ls : List Ls) (box : w.heap[bp]? = some (.cells #[s, v] 67 (0, 0))) (hv : OwnL w 0 v ls) (hst : ∀ l ∈ ls, l.st ≤ 256)
    (ids : List Nat) (hin : ∀ i ∈ ids, i < ls.length) (hn : ids.length ≤ 1000) (hb : OwnN w base (.slice a ids.length cap) (ids.map fun i : Nat => (i : Int))) (hbp : bp < base) (hvb : ∀ g, some g = v.ownBlock → g < base) :
    Calls Try.prog 108 #[.slice a ids.length cap, .func (.func 109) #[] #[.pointer (some ⟨bp, 0, none⟩)]] w (fun e w' =>
      e = .returned (.tuple #[]) ∧ Chg (fun j => base ≤ j) w w' ∧ ∃ ids' : List Nat, ids'.Perm ids ∧ OwnN w' base (.slice a ids.length cap) (ids'.map fun i : Nat => (i : Int))) := by
  rcases hb.2 with ⟨h0, h1⟩ | ⟨g, cap', cur, hvv, hg, _⟩
  · rw [List.length_map] at h1
    have e : ids = [] := List.eq_nil_of_length_eq_zero h1
    subst e
    injection h0 with e1 e2 e3
    subst e1 e3
    refine (SortFunc_0 w _ _ _).mono ?_
    rintro e w' ⟨rfl, rfl⟩
    exact ⟨rfl, Chg.refl _ _, [], List.Perm.refl _, hb⟩
  · injection hvv with e1 e2 e3
    subst e1 e3
    refine (sort_any w bp g cap base s v ls box hv hst ids hin hn hb (by omega) (fun j hj => by have := hvb j hj; omega)).mono ?_
    rintro e w' ⟨rfl, G, r⟩
    exact ⟨rfl, G.mono fun j _ (h : j = g) => by omega, r⟩

theorem flat_setSt (c' : Nat) : ∀ (ls : List Ls) (i : Nat) (l : Ls), ls[i]? = some l → (ls.set i ⟨c', l.ct, l.rm, l.fr⟩).flatMap encL.cells = (ls.flatMap encL.cells).set (i * 4) (.int .i64 (c' : Int))
  | [], i, l, h => by simp at h
  | x :: ls, 0, l, h => by
    simp at h
    subst h
    rfl
  | x :: ls, i + 1, l, h => by
    rw [List.set_cons_succ, List.flatMap_cons, List.flatMap_cons, flat_setSt c' ls i l (by simpa using h)]
    rw [show (i + 1) * 4 = i * 4 + 4 by omega]
    rfl
theorem OwnL.putSt {w : World} {base g n c : Nat} {ls : List Ls} (h : OwnL w base (.slice (some ⟨g, 0, none⟩) n c) ls) (i c' : Nat) (l : Ls) (hl : ls[i]? = some l) :
    OwnL (w.setCell ⟨g, i * 4, none⟩ (.int .i64 (c' : Int))) base (.slice (some ⟨g, 0, none⟩) n c) (ls.set i ⟨c', l.ct, l.rm, l.fr⟩) := by
  obtain ⟨h1, h2⟩ := h
  rcases h2 with ⟨h2, _⟩ | ⟨g', cap, cur, hv, hg, hh, hc, hm, hs, ht⟩
  · simp at h2
  · simp at hv
    obtain ⟨rfl, rfl, rfl⟩ := hv
    refine ⟨by rw [flat_len], .inr ⟨g, c, cur.setIfInBounds (i * 4) (.int .i64 (c' : Int)), by rw [List.length_set], hg, heap_set hh, by rw [List.length_set]; exact hc, hm, by simpa using hs, ?_⟩⟩
    rw [flat_setSt c' ls i l hl, List.length_set]
    simp only [Array.toList_setIfInBounds, List.take_set]
    rw [ht]

/-- A copy out of the middle of a row over another row. -/
theorem step_copyD {ops : Array Oper} {o : Oper} {a : Act} {K : Act → World → Prop} {Q : Exit → Act → World → Prop} {E : Prop} {w : World} (hgd : o.guard = none) (d x : Operand)
    (ho : o.op = .call { callee := .builtin .copy, args := #[d, x], argTypes := #[25, 25] }) (dp sp : Option Addr) (g p dLen dCap g1 o1 yl yc : Nat) (ys : List (Nat × Nat))
    (hd : a.eval d = .slice dp dLen dCap) (hx : a.eval x = .slice sp yl yc) (hdp : dp = some ⟨g, p, none⟩) (hsp : sp = some ⟨g1, o1, none⟩) (hyl : yl = ys.length)
    (hu : ∀ j (hj : j < ys.length), w.cell? ⟨g1, o1 + j, none⟩ = some (cx ys[j])) (hl : ys.length ≤ dLen)
    (hc : ∀ j, j < ys.length → (w.cell? ⟨g, p + j, none⟩).isSome = true) (hf : ∀ j, j < ys.length → w.frozen? ⟨g, p + j, none⟩ = false)
    (h : K (a.put o.dst (goInt ys.length)) (w.setCells g p (ys.map cx))) : if Region.wanted o (yielded ops a.tmps) = true then Oper.wp Try.prog o a w K Q else E := by
  have hw : Region.wanted o (yielded ops a.tmps) = true := by simp [Region.wanted, hgd]
  rw [if_pos hw]
  subst hdp hsp hyl
  have hrun : (Builtin.copy_ #[25, 25] o.type #[.slice (some ⟨g, p, none⟩) dLen dCap, .slice (some ⟨g1, o1, none⟩) ys.length yc]).run Try.prog w = .ok (goInt ys.length) (w.setCells g p (ys.map cx)) := by
    obtain ⟨i, hi, hz, hsz, hby⟩ := info_parts info33
    have hs : (Try.prog.info? 33).map (·.size) = some 1 := by rw [hi]; simp [hsz]
    have h := run_copy_cells (P := Try.prog) w 25 25 o.type 33 g p dLen dCap ⟨g1, o1, none⟩ ys.length yc (ys.map cx) Try.underlying25 hs (by simp [Nat.min_eq_left hl])
      (fun j u hu2 => by
        rw [Addr.add_lit]
        have hj : j < ys.length := by
          rcases Nat.lt_or_ge j ys.length with h | h
          · exact h
          · simp [List.getElem?_eq_none (l := ys.map cx) (by simpa using h)] at hu2
        rw [hu j hj]
        simpa [hj] using hu2) (by simpa using hc) (by simpa using hf) (cx_one ys)
    simpa using h
  unfold Oper.wp
  simp [execOp, ho, resolve, invoke, builtin, hd, hx, hrun, Result.andThen]
  exact h
end Go.Proofs.Ytopkehknaclhlaa
