/- The program cuts a lease. Conditions: the pool is valid. (Printed by gen_qb.py.) -/
import Derived.Test.YtopkehknaclhlaaQa
import Derived.Deep.DeepCutAuto
namespace Go.Proofs.Ytopkehknaclhlaa
open Go Go.RowKit

set_option maxRecDepth 100000 in
set_option maxHeartbeats 4000000 in
theorem CutLease_no (w : World) (s v : Value) (xs : List (Nat × Nat)) (ls : List Ls) (id cut : Nat) (ho : OwnC w 0 s xs) (hv : OwnL w 0 v ls) (hp : POk xs.length ls) (hl : lentB ls id = false) :
    Calls Try.prog 77 #[.agg #[s, v], .int .i64 (id : Int), .int .i64 (cut : Int)] w (RPk w none) := by
  obtain ⟨a, c, rfl⟩ := ho.form
  obtain ⟨a2, c2, rfl⟩ := hv.form
  have n256 := hp.nle
  have m16 := hp.len
  have A1 := ((Chg.refl (fun _ => False) w).alloc (.cells #[.slice a xs.length c, .slice a2 ls.length c2] 67)).alloc (.cells #[.slice none 0 0, .slice none 0 0] 67)
  have HO := hid (ho.chg A1 fun _ _ _ h => h)
  have HV := hid (hv.chg A1 fun _ _ _ h => h)
  have R0 := hid (show ((w.alloc (.cells #[.slice a xs.length c, .slice a2 ls.length c2] 67)).alloc (.cells #[.slice none 0 0, .slice none 0 0] 67)).heap[w.heap.size]? = _ from heap_old (heap_new w _))
  have R1 := hid (show ((w.alloc (.cells #[.slice a xs.length c, .slice a2 ls.length c2] 67)).alloc (.cells #[.slice none 0 0, .slice none 0 0] 67)).heap[w.heap.size + 1]? = _ from heap_new' (w := w.alloc _) (b := w.heap.size + 1) (by simp))
  have Z1 := hid (show ((w.alloc (.cells #[.slice a xs.length c, .slice a2 ls.length c2] 67)).alloc (.cells #[.slice none 0 0, .slice none 0 0] 67)).heap.size = w.heap.size + 2 by simp)
  have GA := hid A1
  have HP := hid hp
  have hIs := hid (fun w ho hv => IsPool_calls w (.slice a xs.length c) (.slice a2 ls.length c2) xs ls ho hv hp)
  have hLe := hid (fun w ho hv => isLent_calls w (.slice a xs.length c) (.slice a2 ls.length c2) xs ls id ho hv (by omega))
  have hCp := hid (fun w ho hv => copyPool_calls w (.slice a xs.length c) (.slice a2 ls.length c2) xs ls ho hv (by omega) (by omega))
  clear A1 ho hv hp
  generalize hn : xs.length = n at *
  generalize hm : ls.length = m at *
  have HN := hid hn
  have HM := hid hm
  clear hn hm
  rw [hl] at hLe
  clear HN HM HP hCp hl
  have kR0i := cells_at R0.out
  go_enter Try.func77, Try.ntmps77
  go_wp2_with fail
  refine wp_region_any (by kernel_rfl) ?_
  change wpAny _ _ _ _ _ _ _ (World.drew _)
  refine wpAny_ready (rs := [0]) (by kernel_rfl) (by simp) ?_
  refine AllReady.cons rfl (fun K hK => ?_) AllReady.nil
  go_simp
  refine hK _ _ ?_; clear hK K
  refine wpAny_ready (rs := [1]) (by kernel_rfl) (by simp) ?_
  refine AllReady.cons rfl (fun K hK => ?_) AllReady.nil
  go_simp
  go_wp2_with (first | (go_at_call 106; refine (hIs.out _ (HO.out.chg (Chg.refl (fun _ => False) _).drew fun _ _ _ h => h) (HV.out.chg (Chg.refl (fun _ => False) _).drew fun _ _ _ h => h)).mono ?_; rintro e w1 ⟨rfl, hG⟩; have R0b := hid (hG.heap (((Chg.refl (fun _ => False) _).drew).heap R0.out (fun h => h)) (fun h => h)); have kR0b := cells_at R0b.out; have HO1 := hid ((HO.out.chg (Chg.refl (fun _ => False) _).drew fun _ _ _ h => h).chg hG fun _ _ _ h => h); have HV1 := hid ((HV.out.chg (Chg.refl (fun _ => False) _).drew fun _ _ _ h => h).chg hG fun _ _ _ h => h); have R1b := hid (hG.heap (((Chg.refl (fun _ => False) _).drew).heap R1.out (fun h => h)) (fun h => h)); have G1 := hid (GA.out.drew.trans hG fun _ _ h => h)) | (go_at_call 107; refine (hLe.out _ HO1.out HV1.out).mono ?_; rintro e w2 ⟨rfl, hG2⟩; have R0c := hid (hG2.heap R0b.out (fun h => h)); have R1c := hid (hG2.heap R1b.out (fun h => h)); have kR0 := cells_at R0c.out; have kR1 := cells_at R1c.out; have fR1 := frees_at R1c.out; have HOc := hid (HO1.out.chg hG2 fun _ _ _ h => h); have HVc := hid (HV1.out.chg hG2 fun _ _ _ h => h); have GW := hid (G1.out.trans hG2 fun _ _ h => h); have z2 : w.heap.size + 2 ≤ w2.heap.size := (by have := Z1.out; have h1 := G1.out.size; have := hG2.size; have := hG.size; simp at *; omega)))
  refine wpAny_take (i := 2) (v := ?_) rfl (by kernel_rfl) (by kernel_rfl) (by kernel_rfl) (fun _ _ _ h => h) (Or.inl ⟨by kernel_rfl, ?_⟩) ?_
  rotate_left
  · (intro w; go_simp) <;> with_reducible rfl
  simp only [Act.put, List.setIfInBounds_toArray, List.set_cons_zero, List.set_cons_succ, List.getElem_toArray, List.getElem_cons_zero, List.getElem_cons_succ]
  refine wpAny_take (i := 3) (v := ?_) rfl (by kernel_rfl) (by kernel_rfl) (by kernel_rfl) (fun _ _ _ h => h) (Or.inl ⟨by kernel_rfl, ?_⟩) ?_
  rotate_left
  · (intro w; go_simp) <;> with_reducible rfl
  simp only [Act.put, List.setIfInBounds_toArray, List.set_cons_zero, List.set_cons_succ, List.getElem_toArray, List.getElem_cons_zero, List.getElem_cons_succ]
  refine wpAny_take (i := 5) (v := ?_) rfl (by kernel_rfl) (by kernel_rfl) (by kernel_rfl) (fun _ _ _ h => h) (Or.inl ⟨by kernel_rfl, ?_⟩) ?_
  rotate_left
  · (intro w; go_simp) <;> with_reducible rfl
  simp only [Act.put, List.setIfInBounds_toArray, List.set_cons_zero, List.set_cons_succ, List.getElem_toArray, List.getElem_cons_zero, List.getElem_cons_succ]
  refine wpAny_ready (rs := [4]) (by kernel_rfl) (by simp) ?_
  refine AllReady.cons rfl (fun K hK => ?_) AllReady.nil
  go_simp
  refine hK _ _ ?_; clear hK K
  refine wpAny_ready (rs := [6]) (by kernel_rfl) (by simp) ?_
  refine AllReady.cons rfl (fun K hK => ?_) AllReady.nil
  go_simp
  go_wp2_with (first | (go_at_call 106; refine (hIs.out _ (HO.out.chg (Chg.refl (fun _ => False) _).drew fun _ _ _ h => h) (HV.out.chg (Chg.refl (fun _ => False) _).drew fun _ _ _ h => h)).mono ?_; rintro e w1 ⟨rfl, hG⟩; have R0b := hid (hG.heap (((Chg.refl (fun _ => False) _).drew).heap R0.out (fun h => h)) (fun h => h)); have kR0b := cells_at R0b.out; have HO1 := hid ((HO.out.chg (Chg.refl (fun _ => False) _).drew fun _ _ _ h => h).chg hG fun _ _ _ h => h); have HV1 := hid ((HV.out.chg (Chg.refl (fun _ => False) _).drew fun _ _ _ h => h).chg hG fun _ _ _ h => h); have R1b := hid (hG.heap (((Chg.refl (fun _ => False) _).drew).heap R1.out (fun h => h)) (fun h => h)); have G1 := hid (GA.out.drew.trans hG fun _ _ h => h)) | (go_at_call 107; refine (hLe.out _ HO1.out HV1.out).mono ?_; rintro e w2 ⟨rfl, hG2⟩; have R0c := hid (hG2.heap R0b.out (fun h => h)); have R1c := hid (hG2.heap R1b.out (fun h => h)); have kR0 := cells_at R0c.out; have kR1 := cells_at R1c.out; have fR1 := frees_at R1c.out; have HOc := hid (HO1.out.chg hG2 fun _ _ _ h => h); have HVc := hid (HV1.out.chg hG2 fun _ _ _ h => h); have GW := hid (G1.out.trans hG2 fun _ _ h => h); have z2 : w.heap.size + 2 ≤ w2.heap.size := (by have := Z1.out; have h1 := G1.out.size; have := hG2.size; have := hG.size; simp at *; omega)))
  refine wpAny_take (i := 7) (v := ?_) rfl (by kernel_rfl) (by kernel_rfl) (by kernel_rfl) (fun _ _ _ h => h) (Or.inl ⟨by kernel_rfl, ?_⟩) ?_
  rotate_left
  · (intro w; go_simp) <;> with_reducible rfl
  simp only [Act.put, List.setIfInBounds_toArray, List.set_cons_zero, List.set_cons_succ, List.getElem_toArray, List.getElem_cons_zero, List.getElem_cons_succ]
  refine wpAny_take (i := 8) (v := ?_) rfl (by kernel_rfl) (by kernel_rfl) (by kernel_rfl) (fun _ _ _ h => h) (Or.inl ⟨by kernel_rfl, ?_⟩) ?_
  rotate_left
  · (intro w; go_simp) <;> with_reducible rfl
  simp only [Act.put, List.setIfInBounds_toArray, List.set_cons_zero, List.set_cons_succ, List.getElem_toArray, List.getElem_cons_zero, List.getElem_cons_succ]
  refine wpAny_take (i := 9) (v := ?_) rfl (by kernel_rfl) (by kernel_rfl) (by kernel_rfl) (fun _ _ _ h => h) (Or.inl ⟨by kernel_rfl, ?_⟩) ?_
  rotate_left
  · (intro w; go_simp) <;> with_reducible rfl
  simp only [Act.put, List.setIfInBounds_toArray, List.set_cons_zero, List.set_cons_succ, List.getElem_toArray, List.getElem_cons_zero, List.getElem_cons_succ]
  refine wpAny_take (i := 10) (v := undef) rfl (by kernel_rfl) (by kernel_rfl) (by kernel_rfl) (fun _ _ _ h => h) (Or.inr ⟨by kernel_rfl, rfl⟩) ?_
  simp only [Act.put, List.setIfInBounds_toArray, List.set_cons_zero, List.set_cons_succ, List.getElem_toArray, List.getElem_cons_zero, List.getElem_cons_succ]
  refine wpAny_take (i := 11) (v := undef) rfl (by kernel_rfl) (by kernel_rfl) (by kernel_rfl) (fun _ _ _ h => h) (Or.inr ⟨by kernel_rfl, rfl⟩) ?_
  simp only [Act.put, List.setIfInBounds_toArray, List.set_cons_zero, List.set_cons_succ, List.getElem_toArray, List.getElem_cons_zero, List.getElem_cons_succ]
  refine wpAny_take (i := 12) (v := ?_) rfl (by kernel_rfl) (by kernel_rfl) (by kernel_rfl) (fun _ _ _ h => h) (Or.inl ⟨by kernel_rfl, ?_⟩) ?_
  rotate_left
  · (intro w; go_simp) <;> with_reducible rfl
  simp only [Act.put, List.setIfInBounds_toArray, List.set_cons_zero, List.set_cons_succ, List.getElem_toArray, List.getElem_cons_zero, List.getElem_cons_succ]
  refine wpAny_take (i := 13) (v := ?_) rfl (by kernel_rfl) (by kernel_rfl) (by kernel_rfl) (fun _ _ _ h => h) (Or.inl ⟨by kernel_rfl, ?_⟩) ?_
  rotate_left
  · (intro w; go_simp) <;> with_reducible rfl
  simp only [Act.put, List.setIfInBounds_toArray, List.set_cons_zero, List.set_cons_succ, List.getElem_toArray, List.getElem_cons_zero, List.getElem_cons_succ]
  refine wpAny_take (i := 14) (v := undef) rfl (by kernel_rfl) (by kernel_rfl) (by kernel_rfl) (fun _ _ _ h => h) (Or.inr ⟨by kernel_rfl, rfl⟩) ?_
  simp only [Act.put, List.setIfInBounds_toArray, List.set_cons_zero, List.set_cons_succ, List.getElem_toArray, List.getElem_cons_zero, List.getElem_cons_succ]
  refine wpAny_take (i := 15) (v := undef) rfl (by kernel_rfl) (by kernel_rfl) (by kernel_rfl) (fun _ _ _ h => h) (Or.inr ⟨by kernel_rfl, rfl⟩) ?_
  simp only [Act.put, List.setIfInBounds_toArray, List.set_cons_zero, List.set_cons_succ, List.getElem_toArray, List.getElem_cons_zero, List.getElem_cons_succ]
  refine wpAny_take (i := 16) (v := undef) rfl (by kernel_rfl) (by kernel_rfl) (by kernel_rfl) (fun _ _ _ h => h) (Or.inr ⟨by kernel_rfl, rfl⟩) ?_
  simp only [Act.put, List.setIfInBounds_toArray, List.set_cons_zero, List.set_cons_succ, List.getElem_toArray, List.getElem_cons_zero, List.getElem_cons_succ]
  refine wpAny_take (i := 17) (v := undef) rfl (by kernel_rfl) (by kernel_rfl) (by kernel_rfl) (fun _ _ _ h => h) (Or.inr ⟨by kernel_rfl, rfl⟩) ?_
  simp only [Act.put, List.setIfInBounds_toArray, List.set_cons_zero, List.set_cons_succ, List.getElem_toArray, List.getElem_cons_zero, List.getElem_cons_succ]
  refine wpAny_take (i := 18) (v := undef) rfl (by kernel_rfl) (by kernel_rfl) (by kernel_rfl) (fun _ _ _ h => h) (Or.inr ⟨by kernel_rfl, rfl⟩) ?_
  simp only [Act.put, List.setIfInBounds_toArray, List.set_cons_zero, List.set_cons_succ, List.getElem_toArray, List.getElem_cons_zero, List.getElem_cons_succ]
  refine wpAny_take (i := 19) (v := undef) rfl (by kernel_rfl) (by kernel_rfl) (by kernel_rfl) (fun _ _ _ h => h) (Or.inr ⟨by kernel_rfl, rfl⟩) ?_
  simp only [Act.put, List.setIfInBounds_toArray, List.set_cons_zero, List.set_cons_succ, List.getElem_toArray, List.getElem_cons_zero, List.getElem_cons_succ]
  refine wpAny_take (i := 20) (v := undef) rfl (by kernel_rfl) (by kernel_rfl) (by kernel_rfl) (fun _ _ _ h => h) (Or.inr ⟨by kernel_rfl, rfl⟩) ?_
  simp only [Act.put, List.setIfInBounds_toArray, List.set_cons_zero, List.set_cons_succ, List.getElem_toArray, List.getElem_cons_zero, List.getElem_cons_succ]
  refine wpAny_take (i := 21) (v := undef) rfl (by kernel_rfl) (by kernel_rfl) (by kernel_rfl) (fun _ _ _ h => h) (Or.inr ⟨by kernel_rfl, rfl⟩) ?_
  simp only [Act.put, List.setIfInBounds_toArray, List.set_cons_zero, List.set_cons_succ, List.getElem_toArray, List.getElem_cons_zero, List.getElem_cons_succ]
  refine wpAny_take (i := 22) (v := undef) rfl (by kernel_rfl) (by kernel_rfl) (by kernel_rfl) (fun _ _ _ h => h) (Or.inr ⟨by kernel_rfl, rfl⟩) ?_
  simp only [Act.put, List.setIfInBounds_toArray, List.set_cons_zero, List.set_cons_succ, List.getElem_toArray, List.getElem_cons_zero, List.getElem_cons_succ]
  refine wpAny_take (i := 23) (v := undef) rfl (by kernel_rfl) (by kernel_rfl) (by kernel_rfl) (fun _ _ _ h => h) (Or.inr ⟨by kernel_rfl, rfl⟩) ?_
  simp only [Act.put, List.setIfInBounds_toArray, List.set_cons_zero, List.set_cons_succ, List.getElem_toArray, List.getElem_cons_zero, List.getElem_cons_succ]
  refine wpAny_take (i := 24) (v := undef) rfl (by kernel_rfl) (by kernel_rfl) (by kernel_rfl) (fun _ _ _ h => h) (Or.inr ⟨by kernel_rfl, rfl⟩) ?_
  simp only [Act.put, List.setIfInBounds_toArray, List.set_cons_zero, List.set_cons_succ, List.getElem_toArray, List.getElem_cons_zero, List.getElem_cons_succ]
  refine wpAny_take (i := 25) (v := undef) rfl (by kernel_rfl) (by kernel_rfl) (by kernel_rfl) (fun _ _ _ h => h) (Or.inr ⟨by kernel_rfl, rfl⟩) ?_
  simp only [Act.put, List.setIfInBounds_toArray, List.set_cons_zero, List.set_cons_succ, List.getElem_toArray, List.getElem_cons_zero, List.getElem_cons_succ]
  refine wpAny_take (i := 26) (v := undef) rfl (by kernel_rfl) (by kernel_rfl) (by kernel_rfl) (fun _ _ _ h => h) (Or.inr ⟨by kernel_rfl, rfl⟩) ?_
  simp only [Act.put, List.setIfInBounds_toArray, List.set_cons_zero, List.set_cons_succ, List.getElem_toArray, List.getElem_cons_zero, List.getElem_cons_succ]
  refine wpAny_take (i := 27) (v := undef) rfl (by kernel_rfl) (by kernel_rfl) (by kernel_rfl) (fun _ _ _ h => h) (Or.inr ⟨by kernel_rfl, rfl⟩) ?_
  simp only [Act.put, List.setIfInBounds_toArray, List.set_cons_zero, List.set_cons_succ, List.getElem_toArray, List.getElem_cons_zero, List.getElem_cons_succ]
  refine wpAny_take (i := 28) (v := undef) rfl (by kernel_rfl) (by kernel_rfl) (by kernel_rfl) (fun _ _ _ h => h) (Or.inr ⟨by kernel_rfl, rfl⟩) ?_
  simp only [Act.put, List.setIfInBounds_toArray, List.set_cons_zero, List.set_cons_succ, List.getElem_toArray, List.getElem_cons_zero, List.getElem_cons_succ]
  refine wpAny_take (i := 29) (v := undef) rfl (by kernel_rfl) (by kernel_rfl) (by kernel_rfl) (fun _ _ _ h => h) (Or.inr ⟨by kernel_rfl, rfl⟩) ?_
  simp only [Act.put, List.setIfInBounds_toArray, List.set_cons_zero, List.set_cons_succ, List.getElem_toArray, List.getElem_cons_zero, List.getElem_cons_succ]
  refine wpAny_take (i := 30) (v := ?_) rfl (by kernel_rfl) (by kernel_rfl) (by kernel_rfl) (fun _ _ _ h => h) (Or.inl ⟨by kernel_rfl, ?_⟩) ?_
  rotate_left
  · (intro w; go_simp) <;> with_reducible rfl
  simp only [Act.put, List.setIfInBounds_toArray, List.set_cons_zero, List.set_cons_succ, List.getElem_toArray, List.getElem_cons_zero, List.getElem_cons_succ]
  refine wpAny_done (by kernel_rfl) ?_ _
  go_wp2_with fail
  refine bodyPost_ret (row_cell_tmp2 (by rfl) _ _ _ (w.heap.size + 1) _ (.int .i64 0) (.bool false) rfl (load_pool (heap_row2 R1c.out _ _) rfl) rfl rfl) rfl ⟨?_, rfl⟩
  exact GW.out.trans (chg_row2 _ (w.heap.size + 1) (.slice none 0 0) (.slice none 0 0)) (fun j hj (h : j = w.heap.size + 1) => by omega)
end Go.Proofs.Ytopkehknaclhlaa
