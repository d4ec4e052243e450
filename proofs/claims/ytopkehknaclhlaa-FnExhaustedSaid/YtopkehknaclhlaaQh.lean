/- The program compacts a pool that is all free. Conditions: the pool is valid, and no lease is lent. (Printed by gen_qh.py.) -/
import Derived.Test.YtopkehknaclhlaaQg
import Derived.Deep.DeepCutAuto
namespace Go.Proofs.Ytopkehknaclhlaa
open Go Go.RowKit

/-- Behind the new store and the copy of the leases: a new variable. -/
structure CpMid (w2 wx : World) (bp bm : Nat) (a4 : Option Addr) (c4 n m : Nat) (ls : List Ls) : Prop where
  zbp : w2.heap.size ≤ bp
  RP : wx.heap[bp]? = some (.cells #[.slice (some ⟨bm, 0, none⟩) n n, .slice a4 m c4] 67 (0, 0))
  HO : OwnC wx w2.heap.size (.slice (some ⟨bm, 0, none⟩) n n) (List.replicate n (0, 0))
  HV : OwnL wx w2.heap.size (.slice a4 m c4) ls
  G : Chg (fun _ => False) w2 wx
theorem zeros_lit (w : World) (n : Nat) (hn : n ≤ 1000) : OwnC (w.alloc (.cells (Array.replicate n (.complex .f32 0 0)) 33)) w.heap.size (.slice (some ⟨w.heap.size, 0, none⟩) n n) (List.replicate n (0, 0)) := by
  have h := OwnC.lit w (List.replicate n (0, 0)) 33 rfl (by simp; omega) (base := w.heap.size) (Nat.le_refl _) (Array.replicate n (.complex .f32 0 0)) (by simp; exact .inr rfl)
  simpa using h

set_option maxRecDepth 100000 in
set_option maxHeartbeats 4000000 in
theorem CompactPool_free (w : World) (s v : Value) (xs : List (Nat × Nat)) (ls : List Ls) (ho : OwnC w 0 s xs) (hv : OwnL w 0 v ls) (hp : POk xs.length ls) (hfr : ∀ id, lentB ls id = false) :
    Calls Try.prog 53 #[.agg #[s, v]] w (RPl w (List.replicate xs.length (0, 0)) ls) := by
  obtain ⟨a, c, rfl⟩ := ho.form
  obtain ⟨a2, c2, rfl⟩ := hv.form
  have n256 := hp.nle
  have m16 := hp.len
  have A1 := ((Chg.refl (fun _ => False) w).alloc (.cells #[.slice a xs.length c, .slice a2 ls.length c2] 67)).alloc (.cells #[.slice none 0 0, .slice none 0 0] 67)
  have HO := hid (ho.chg A1 fun _ _ _ h => h)
  have HV := hid (hv.chg A1 fun _ _ _ h => h)
  have R0 := hid (show ((w.alloc (.cells #[.slice a xs.length c, .slice a2 ls.length c2] 67)).alloc (.cells #[.slice none 0 0, .slice none 0 0] 67)).heap[w.heap.size]? = _ from heap_old (heap_new w _))
  have R1 := hid (show ((w.alloc (.cells #[.slice a xs.length c, .slice a2 ls.length c2] 67)).alloc (.cells #[.slice none 0 0, .slice none 0 0] 67)).heap[w.heap.size + 1]? = _ from heap_new' (w := w.alloc _) (b := w.heap.size + 1) (by simp))
  have Z1 := hid (show ((w.alloc (.cells #[.slice a xs.length c, .slice a2 ls.length c2] 67)).alloc (.cells #[.slice none 0 0, .slice none 0 0] 67)).heap.size = w.heap.size + 2 by simp)
  have GA := hid A1
  have HP := hid hp
  have hIs := hid (fun w ho hv => IsPool_calls w (.slice a xs.length c) (.slice a2 ls.length c2) xs ls ho hv hp)
  have hLe := hid (fun id w ho hv => isLent_calls w (.slice a xs.length c) (.slice a2 ls.length c2) xs ls id ho hv (by omega))
  have hmk := hid (fun w => run_make25 w xs.length (by omega))
  have hCl := hid (fun w hv => CloneL_calls w (.slice a2 ls.length c2) ls (by omega) hv)
  clear A1 ho hv hp
  generalize hn : xs.length = n at *
  generalize hm : ls.length = m at *
  have HN := hid hn
  have HM := hid hm
  clear hn hm
  have HFR := hid hfr
  clear hfr
  have hmf : ∀ (fn : Fn) (first cap : Array Value) (w : World), (Instr.makeFunc fn first cap).run Try.prog w = .ok (.func fn first cap) w := fun _ _ _ _ => rfl
  go_enter Try.func53, Try.ntmps53
  have kR0i := cells_at R0.out
  go_upto_region 4 with (go_at_call 106; refine (hIs.out _ HO.out HV.out).mono ?_; rintro e w1 ⟨rfl, hG⟩; have R0b := hid (hG.heap R0.out (fun h => h)); have kR0b := cells_at R0b.out; have HO1 := hid (HO.out.chg hG fun _ _ _ h => h); have HV1 := hid (HV.out.chg hG fun _ _ _ h => h); have G1 := hid hG)
  have A3 := (Chg.refl (fun _ => False) w1).alloc (.cells #[] 3)
  have R0c := hid (A3.heap R0b.out (fun h => h))
  have R1c := hid (A3.heap (G1.out.heap R1.out (fun h => h)) (fun h => h))
  have HOc := hid (HO1.out.chg A3 fun _ _ _ h => h)
  have HVc := hid (HV1.out.chg A3 fun _ _ _ h => h)
  have GW := hid ((GA.out.trans G1.out fun _ _ h => h).trans A3 fun _ _ h => h)
  have z2 : w.heap.size + 2 ≤ w1.heap.size := by have := Z1.out; have := G1.out.size; omega
  have z2' := A3.size
  clear A3 R0b kR0b HO1 HV1 G1 Z1 GA hG hIs R0 R1 HO HV kR0i
  generalize w1.alloc (.cells #[] 3) = w2 at *
  have kR0 := cells_at R0c.out
  go_wp2_with fail
  go_loopw [3, 18] (fun s3 i wr => ∃ (k : Nat), k ≤ m ∧ i = .int .i64 (k : Int) ∧ s3 = .slice (some ⟨w1.heap.size, 0, none⟩) 0 0 ∧ Hid (Chg (fun _ => False) w2 wr)) (fun _ i _ => m - (intOf i).toNat)
  case atStart => exact ⟨0, by omega, rfl, rfl, hid (Chg.refl _ _)⟩
  case round =>
    obtain ⟨k, hk, rfl, rfl, GR⟩ := hrel
    obtain ⟨wo, rfl⟩ : ∃ wo : World, wo = wr := ⟨_, rfl⟩
    have RB := hid (GR.out.heap R0c.out (fun h => h))
    have kRB := cells_at RB.out
    have HOw := hid (HOc.out.chg GR.out fun _ _ _ h => h)
    have HVw := hid (HVc.out.chg GR.out fun _ _ _ h => h)
    by_cases hlt : k < m
    · have hlt' : (k : Int) < (m : Int) := by omega
      have hL := hid (hLe.out k)
      rw [HFR.out k] at hL
      go_wp2_with (go_at_call 107; refine (hL.out _ HOw.out HVw.out).mono ?_; rintro e w5 ⟨rfl, hG⟩)
      go_roundw
      case rel => exact ⟨k + 1, by omega, by go_num, rfl, hid (GR.out.trans hG fun _ _ h => h)⟩
      case measure => simp [intOf]; omega
    · obtain rfl : k = m := by omega
      have hlt' : ¬ (k : Int) < (k : Int) := by omega
      have R1w := hid (GR.out.heap R1c.out (fun h => h))
      have GWw := hid (GW.out.trans GR.out fun _ _ h => h)
      have zz := GR.out.size
      clear R0c R1c HOc HVc GW GR kR0 hLe HFR
      go_upto_region 11 with (go_at_call 108; refine (SortFunc_0 _ _ _ _).mono ?_; rintro e w' ⟨rfl, hw⟩; rw [hw]; clear hw w')
      have x0 : wo.cell? ⟨w.heap.size, 0, none⟩ = some (.slice a n c) := cell_at RB.out
      have x1 : wo.cell? ⟨w.heap.size, 1, none⟩ = some (.slice a2 k c2) := cell_at RB.out
      have hCl2 := hid (fun wx (G : Chg (fun _ => False) wo wx) => hCl.out wx (HVw.out.chg G fun _ _ _ h => h))
      clear kRB
      go_cut [5] (fun r5 wx => ∃ bp bm a4 c4, r5 = .pointer (some ⟨bp, 0, none⟩) ∧ Hid (CpMid wo wx bp bm a4 c4 n k ls))
      case first =>
        as_aux_lemma =>
          refine wp_region_held_drew (S := fun wx => Chg (fun _ => False) wo wx) (by kernel_rfl) ((Chg.refl _ wo).drew) (fun hH => ?_)
          have zd : wo.heap.size ≤ wo.drew.heap.size := Nat.le_refl _
          generalize wo.drew = wd at *
          refine wpAnyH_take (i := 0) (v := ?_) (oi := { dst := some 32, op := Op.fieldAddr 67 (Operand.tmp 1) 0, type := _, pos := _, after := _, guard := none }) rfl (by kernel_rfl) (by kernel_rfl) (by kernel_rfl) (fun _ _ _ h => h) (Or.inl ⟨by kernel_rfl, ?_⟩) (by assumption) ?_
          rotate_left
          · (intro wx hSw; (try dsimp only at hSw); go_simp) <;> with_reducible rfl
          try simp only [Act.put, List.setIfInBounds_toArray, List.set_cons_zero, List.set_cons_succ]
          refine wpAnyH_take (i := 1) (v := ?_) (oi := { dst := some 33, op := Op.load 25 (Operand.tmp 32), type := _, pos := _, after := _, guard := none }) rfl (by kernel_rfl) (by kernel_rfl) (by kernel_rfl) (fun _ _ _ h => h) (Or.inl ⟨by kernel_rfl, ?_⟩) (by assumption) ?_
          rotate_left
          · (intro wx hSw; (try dsimp only at hSw); have y0 := hSw.cell x0 (fun h => h); go_simp) <;> with_reducible rfl
          try simp only [Act.put, List.setIfInBounds_toArray, List.set_cons_zero, List.set_cons_succ]
          refine wpAnyH_take (i := 2) (v := ?_) (oi := { dst := some 34, op := Op.call { callee := Callee.builtin Builtin.len, args := #[Operand.tmp 33], argTypes := #[25] }, type := _, pos := _, after := _, guard := none }) rfl (by kernel_rfl) (by kernel_rfl) (by kernel_rfl) (fun _ _ _ h => h) (Or.inl ⟨by kernel_rfl, ?_⟩) (by assumption) ?_
          rotate_left
          · (intro wx hSw; (try dsimp only at hSw); go_simp) <;> with_reducible rfl
          try simp only [Act.put, List.setIfInBounds_toArray, List.set_cons_zero, List.set_cons_succ]
          refine wpAnyH_take (i := 4) (v := ?_) (oi := { dst := some 36, op := Op.fieldAddr 67 (Operand.tmp 1) 1, type := _, pos := _, after := _, guard := none }) rfl (by kernel_rfl) (by kernel_rfl) (by kernel_rfl) (fun _ _ _ h => h) (Or.inl ⟨by kernel_rfl, ?_⟩) (by assumption) ?_
          rotate_left
          · (intro wx hSw; (try dsimp only at hSw); go_simp) <;> with_reducible rfl
          try simp only [Act.put, List.setIfInBounds_toArray, List.set_cons_zero, List.set_cons_succ]
          refine wpAnyH_take (i := 5) (v := ?_) (oi := { dst := some 37, op := Op.load 65 (Operand.tmp 36), type := _, pos := _, after := _, guard := none }) rfl (by kernel_rfl) (by kernel_rfl) (by kernel_rfl) (fun _ _ _ h => h) (Or.inl ⟨by kernel_rfl, ?_⟩) (by assumption) ?_
          rotate_left
          · (intro wx hSw; (try dsimp only at hSw); have y1 := hSw.cell x1 (fun h => h); go_simp) <;> with_reducible rfl
          try simp only [Act.put, List.setIfInBounds_toArray, List.set_cons_zero, List.set_cons_succ]
          refine wpAnyH_ready (rs := [3, 6, 8]) (by kernel_rfl) (by simp) ?_
          refine (AllReadyH.cons rfl (fun K hK => ?_) (AllReadyH.cons rfl (fun K hK => ?_) (AllReadyH.cons rfl (fun K hK => ?_) AllReadyH.nil)))
          · have hmkU := hmk.out
            go_simp
            refine hK.out _ _ (hH.alloc _) (fun hHM => ?_)
            clear hK K hmkU
            try simp only [Act.put, List.setIfInBounds_toArray, List.set_cons_zero, List.set_cons_succ]
            have zwwdM := hH.size
            have HO := hid ((zeros_lit wd n (by omega)).mono hH.size)
            generalize wd.alloc (.cells (Array.replicate n (.complex .f32 0 0)) 33) = wdM at *
            generalize wd.heap.size = bm at *
            refine wpAnyH_ready (rs := [6, 8]) (by kernel_rfl) (by simp) ?_
            refine (AllReadyH.cons rfl (fun K hK => ?_) (AllReadyH.cons rfl (fun K hK => ?_) AllReadyH.nil))
            · go_simp
              refine (hCl2.out _ hHM).mono ?_
              rintro e wdMC ⟨a4, c4, rfl, hV4, hG4⟩
              go_wp2_with fail
              refine hK.out _ _ (hHM.trans hG4 fun _ _ h => h) (fun hHMC => ?_)
              clear hK K
              try simp only [Act.put, List.setIfInBounds_toArray, List.set_cons_zero, List.set_cons_succ]
              rw [HM.out] at hV4
              have HV := hid (OwnR.mono hV4 hHM.size)
              replace HO := hid (HO.out.chg hG4 fun _ _ _ h => h)
              rw [HM.out]
              clear hV4 hG4
              refine wpAnyH_take (i := 7) (v := ?_) (oi := { dst := some 39, op := Op.build 67 #[(0, Operand.tmp 35), (1, Operand.tmp 38)], type := _, pos := _, after := _, guard := none }) rfl (by kernel_rfl) (by kernel_rfl) (by kernel_rfl) (fun _ _ _ h => h) (Or.inl ⟨by kernel_rfl, ?_⟩) (by assumption) ?_
              rotate_left
              · (intro wx hSw; (try dsimp only at hSw); go_simp) <;> with_reducible rfl
              try simp only [Act.put, List.setIfInBounds_toArray, List.set_cons_zero, List.set_cons_succ]
              refine wpAnyH_ready (rs := [8]) (by kernel_rfl) (by simp) ?_
              refine (AllReadyH.cons rfl (fun K hK => ?_) AllReadyH.nil)
              go_simp
              refine hK.out _ _ (hHMC.alloc _) (fun hHMCP => ?_)
              clear hK K
              try simp only [Act.put, List.setIfInBounds_toArray, List.set_cons_zero, List.set_cons_succ]
              have zwwdMCP := hHMC.size
              replace HO := hid (HO.out.chg ((Chg.refl (fun _ => False) wdMC).alloc (.cells #[.slice none 0 0, .slice none 0 0] 67)) fun _ _ _ h => h)
              replace HV := hid (HV.out.chg ((Chg.refl (fun _ => False) wdMC).alloc (.cells #[.slice none 0 0, .slice none 0 0] 67)) fun _ _ _ h => h)
              have RP := hid (heap_new wdMC (.cells #[.slice none 0 0, .slice none 0 0] 67))
              generalize wdMC.alloc (.cells #[.slice none 0 0, .slice none 0 0] 67) = wdMCP at *
              generalize wdMC.heap.size = bp at *
              refine wpAnyH_ready (rs := [9]) (by kernel_rfl) (by simp) ?_
              refine (AllReadyH.cons rfl (fun K hK => ?_) AllReadyH.nil)
              have kP := cells_at RP.out
              have fP := frees_at RP.out
              go_simp
              have zbp : wo.heap.size ≤ bp := by omega
              refine hK.out _ _ ((hHMCP.setCell (p := ⟨bp, 0, none⟩) (.inr zbp) _).setCell (p := ⟨bp, 1, none⟩) (.inr zbp) _) (fun hH9 => ?_)
              clear hK K
              try simp only [Act.put, List.setIfInBounds_toArray, List.set_cons_zero, List.set_cons_succ]
              have CV := chg_row2 wdMCP bp (.slice (some ⟨bm, 0, none⟩) n n) (.slice a4 k c4)
              replace HO := hid (HO.out.chgN CV (fun g e1 e2 => by subst e2; exact apartTC HO.out RP.out (by decide) e1))
              replace HV := hid (OwnR.chgN HV.out CV (fun g e1 e2 => by subst e2; exact apartT HV.out RP.out (by decide) e1))
              replace RP := hid (heap_row2 RP.out (.slice (some ⟨bm, 0, none⟩) n n) (.slice a4 k c4))
              refine wpAnyH_done (by kernel_rfl) ?_ _
              go_wp2_with fail
              go_meet
              exact ⟨bp, bm, a4, c4, rfl, hid ⟨zbp, RP.out, HO.out, HV.out, hH9⟩⟩
            · go_simp
              refine hK.out _ _ (hHM.alloc _) (fun hHMP => ?_)
              clear hK K
              try simp only [Act.put, List.setIfInBounds_toArray, List.set_cons_zero, List.set_cons_succ]
              have zwwdMP := hHM.size
              replace HO := hid (HO.out.chg ((Chg.refl (fun _ => False) wdM).alloc (.cells #[.slice none 0 0, .slice none 0 0] 67)) fun _ _ _ h => h)
              have RP := hid (heap_new wdM (.cells #[.slice none 0 0, .slice none 0 0] 67))
              generalize wdM.alloc (.cells #[.slice none 0 0, .slice none 0 0] 67) = wdMP at *
              generalize wdM.heap.size = bp at *
              refine wpAnyH_ready (rs := [6]) (by kernel_rfl) (by simp) ?_
              refine (AllReadyH.cons rfl (fun K hK => ?_) AllReadyH.nil)
              go_simp
              refine (hCl2.out _ hHMP).mono ?_
              rintro e wdMPC ⟨a4, c4, rfl, hV4, hG4⟩
              go_wp2_with fail
              refine hK.out _ _ (hHMP.trans hG4 fun _ _ h => h) (fun hHMPC => ?_)
              clear hK K
              try simp only [Act.put, List.setIfInBounds_toArray, List.set_cons_zero, List.set_cons_succ]
              rw [HM.out] at hV4
              have HV := hid (OwnR.mono hV4 hHMP.size)
              replace HO := hid (HO.out.chg hG4 fun _ _ _ h => h)
              replace RP := hid (hG4.heap RP.out (fun h => h))
              rw [HM.out]
              clear hV4 hG4
              refine wpAnyH_take (i := 7) (v := ?_) (oi := { dst := some 39, op := Op.build 67 #[(0, Operand.tmp 35), (1, Operand.tmp 38)], type := _, pos := _, after := _, guard := none }) rfl (by kernel_rfl) (by kernel_rfl) (by kernel_rfl) (fun _ _ _ h => h) (Or.inl ⟨by kernel_rfl, ?_⟩) (by assumption) ?_
              rotate_left
              · (intro wx hSw; (try dsimp only at hSw); go_simp) <;> with_reducible rfl
              try simp only [Act.put, List.setIfInBounds_toArray, List.set_cons_zero, List.set_cons_succ]
              refine wpAnyH_ready (rs := [9]) (by kernel_rfl) (by simp) ?_
              refine (AllReadyH.cons rfl (fun K hK => ?_) AllReadyH.nil)
              have kP := cells_at RP.out
              have fP := frees_at RP.out
              go_simp
              have zbp : wo.heap.size ≤ bp := by omega
              refine hK.out _ _ ((hHMPC.setCell (p := ⟨bp, 0, none⟩) (.inr zbp) _).setCell (p := ⟨bp, 1, none⟩) (.inr zbp) _) (fun hH9 => ?_)
              clear hK K
              try simp only [Act.put, List.setIfInBounds_toArray, List.set_cons_zero, List.set_cons_succ]
              have CV := chg_row2 wdMPC bp (.slice (some ⟨bm, 0, none⟩) n n) (.slice a4 k c4)
              replace HO := hid (HO.out.chgN CV (fun g e1 e2 => by subst e2; exact apartTC HO.out RP.out (by decide) e1))
              replace HV := hid (OwnR.chgN HV.out CV (fun g e1 e2 => by subst e2; exact apartT HV.out RP.out (by decide) e1))
              replace RP := hid (heap_row2 RP.out (.slice (some ⟨bm, 0, none⟩) n n) (.slice a4 k c4))
              refine wpAnyH_done (by kernel_rfl) ?_ _
              go_wp2_with fail
              go_meet
              exact ⟨bp, bm, a4, c4, rfl, hid ⟨zbp, RP.out, HO.out, HV.out, hH9⟩⟩
          · go_simp
            refine (hCl2.out _ hH).mono ?_
            rintro e wdC ⟨a4, c4, rfl, hV4, hG4⟩
            go_wp2_with fail
            refine hK.out _ _ (hH.trans hG4 fun _ _ h => h) (fun hHC => ?_)
            clear hK K
            try simp only [Act.put, List.setIfInBounds_toArray, List.set_cons_zero, List.set_cons_succ]
            rw [HM.out] at hV4
            have HV := hid (OwnR.mono hV4 hH.size)
            rw [HM.out]
            clear hV4 hG4
            refine wpAnyH_ready (rs := [3, 8]) (by kernel_rfl) (by simp) ?_
            refine (AllReadyH.cons rfl (fun K hK => ?_) (AllReadyH.cons rfl (fun K hK => ?_) AllReadyH.nil))
            · have hmkU := hmk.out
              go_simp
              refine hK.out _ _ (hHC.alloc _) (fun hHCM => ?_)
              clear hK K hmkU
              try simp only [Act.put, List.setIfInBounds_toArray, List.set_cons_zero, List.set_cons_succ]
              have zwwdCM := hHC.size
              replace HV := hid (HV.out.chg ((Chg.refl (fun _ => False) wdC).alloc (.cells (Array.replicate n (.complex .f32 0 0)) 33)) fun _ _ _ h => h)
              have HO := hid ((zeros_lit wdC n (by omega)).mono hHC.size)
              generalize wdC.alloc (.cells (Array.replicate n (.complex .f32 0 0)) 33) = wdCM at *
              generalize wdC.heap.size = bm at *
              refine wpAnyH_take (i := 7) (v := ?_) (oi := { dst := some 39, op := Op.build 67 #[(0, Operand.tmp 35), (1, Operand.tmp 38)], type := _, pos := _, after := _, guard := none }) rfl (by kernel_rfl) (by kernel_rfl) (by kernel_rfl) (fun _ _ _ h => h) (Or.inl ⟨by kernel_rfl, ?_⟩) (by assumption) ?_
              rotate_left
              · (intro wx hSw; (try dsimp only at hSw); go_simp) <;> with_reducible rfl
              try simp only [Act.put, List.setIfInBounds_toArray, List.set_cons_zero, List.set_cons_succ]
              refine wpAnyH_ready (rs := [8]) (by kernel_rfl) (by simp) ?_
              refine (AllReadyH.cons rfl (fun K hK => ?_) AllReadyH.nil)
              go_simp
              refine hK.out _ _ (hHCM.alloc _) (fun hHCMP => ?_)
              clear hK K
              try simp only [Act.put, List.setIfInBounds_toArray, List.set_cons_zero, List.set_cons_succ]
              have zwwdCMP := hHCM.size
              replace HO := hid (HO.out.chg ((Chg.refl (fun _ => False) wdCM).alloc (.cells #[.slice none 0 0, .slice none 0 0] 67)) fun _ _ _ h => h)
              replace HV := hid (HV.out.chg ((Chg.refl (fun _ => False) wdCM).alloc (.cells #[.slice none 0 0, .slice none 0 0] 67)) fun _ _ _ h => h)
              have RP := hid (heap_new wdCM (.cells #[.slice none 0 0, .slice none 0 0] 67))
              generalize wdCM.alloc (.cells #[.slice none 0 0, .slice none 0 0] 67) = wdCMP at *
              generalize wdCM.heap.size = bp at *
              refine wpAnyH_ready (rs := [9]) (by kernel_rfl) (by simp) ?_
              refine (AllReadyH.cons rfl (fun K hK => ?_) AllReadyH.nil)
              have kP := cells_at RP.out
              have fP := frees_at RP.out
              go_simp
              have zbp : wo.heap.size ≤ bp := by omega
              refine hK.out _ _ ((hHCMP.setCell (p := ⟨bp, 0, none⟩) (.inr zbp) _).setCell (p := ⟨bp, 1, none⟩) (.inr zbp) _) (fun hH9 => ?_)
              clear hK K
              try simp only [Act.put, List.setIfInBounds_toArray, List.set_cons_zero, List.set_cons_succ]
              have CV := chg_row2 wdCMP bp (.slice (some ⟨bm, 0, none⟩) n n) (.slice a4 k c4)
              replace HO := hid (HO.out.chgN CV (fun g e1 e2 => by subst e2; exact apartTC HO.out RP.out (by decide) e1))
              replace HV := hid (OwnR.chgN HV.out CV (fun g e1 e2 => by subst e2; exact apartT HV.out RP.out (by decide) e1))
              replace RP := hid (heap_row2 RP.out (.slice (some ⟨bm, 0, none⟩) n n) (.slice a4 k c4))
              refine wpAnyH_done (by kernel_rfl) ?_ _
              go_wp2_with fail
              go_meet
              exact ⟨bp, bm, a4, c4, rfl, hid ⟨zbp, RP.out, HO.out, HV.out, hH9⟩⟩
            · go_simp
              refine hK.out _ _ (hHC.alloc _) (fun hHCP => ?_)
              clear hK K
              try simp only [Act.put, List.setIfInBounds_toArray, List.set_cons_zero, List.set_cons_succ]
              have zwwdCP := hHC.size
              replace HV := hid (HV.out.chg ((Chg.refl (fun _ => False) wdC).alloc (.cells #[.slice none 0 0, .slice none 0 0] 67)) fun _ _ _ h => h)
              have RP := hid (heap_new wdC (.cells #[.slice none 0 0, .slice none 0 0] 67))
              generalize wdC.alloc (.cells #[.slice none 0 0, .slice none 0 0] 67) = wdCP at *
              generalize wdC.heap.size = bp at *
              refine wpAnyH_ready (rs := [3]) (by kernel_rfl) (by simp) ?_
              refine (AllReadyH.cons rfl (fun K hK => ?_) AllReadyH.nil)
              have hmkU := hmk.out
              go_simp
              refine hK.out _ _ (hHCP.alloc _) (fun hHCPM => ?_)
              clear hK K hmkU
              try simp only [Act.put, List.setIfInBounds_toArray, List.set_cons_zero, List.set_cons_succ]
              have zwwdCPM := hHCP.size
              replace HV := hid (HV.out.chg ((Chg.refl (fun _ => False) wdCP).alloc (.cells (Array.replicate n (.complex .f32 0 0)) 33)) fun _ _ _ h => h)
              replace RP := hid (heap_old (o' := (.cells (Array.replicate n (.complex .f32 0 0)) 33)) RP.out)
              have HO := hid ((zeros_lit wdCP n (by omega)).mono hHCP.size)
              generalize wdCP.alloc (.cells (Array.replicate n (.complex .f32 0 0)) 33) = wdCPM at *
              generalize wdCP.heap.size = bm at *
              refine wpAnyH_take (i := 7) (v := ?_) (oi := { dst := some 39, op := Op.build 67 #[(0, Operand.tmp 35), (1, Operand.tmp 38)], type := _, pos := _, after := _, guard := none }) rfl (by kernel_rfl) (by kernel_rfl) (by kernel_rfl) (fun _ _ _ h => h) (Or.inl ⟨by kernel_rfl, ?_⟩) (by assumption) ?_
              rotate_left
              · (intro wx hSw; (try dsimp only at hSw); go_simp) <;> with_reducible rfl
              try simp only [Act.put, List.setIfInBounds_toArray, List.set_cons_zero, List.set_cons_succ]
              refine wpAnyH_ready (rs := [9]) (by kernel_rfl) (by simp) ?_
              refine (AllReadyH.cons rfl (fun K hK => ?_) AllReadyH.nil)
              have kP := cells_at RP.out
              have fP := frees_at RP.out
              go_simp
              have zbp : wo.heap.size ≤ bp := by omega
              refine hK.out _ _ ((hHCPM.setCell (p := ⟨bp, 0, none⟩) (.inr zbp) _).setCell (p := ⟨bp, 1, none⟩) (.inr zbp) _) (fun hH9 => ?_)
              clear hK K
              try simp only [Act.put, List.setIfInBounds_toArray, List.set_cons_zero, List.set_cons_succ]
              have CV := chg_row2 wdCPM bp (.slice (some ⟨bm, 0, none⟩) n n) (.slice a4 k c4)
              replace HO := hid (HO.out.chgN CV (fun g e1 e2 => by subst e2; exact apartTC HO.out RP.out (by decide) e1))
              replace HV := hid (OwnR.chgN HV.out CV (fun g e1 e2 => by subst e2; exact apartT HV.out RP.out (by decide) e1))
              replace RP := hid (heap_row2 RP.out (.slice (some ⟨bm, 0, none⟩) n n) (.slice a4 k c4))
              refine wpAnyH_done (by kernel_rfl) ?_ _
              go_wp2_with fail
              go_meet
              exact ⟨bp, bm, a4, c4, rfl, hid ⟨zbp, RP.out, HO.out, HV.out, hH9⟩⟩
          · go_simp
            refine hK.out _ _ (hH.alloc _) (fun hHP => ?_)
            clear hK K
            try simp only [Act.put, List.setIfInBounds_toArray, List.set_cons_zero, List.set_cons_succ]
            have zwwdP := hH.size
            have RP := hid (heap_new wd (.cells #[.slice none 0 0, .slice none 0 0] 67))
            generalize wd.alloc (.cells #[.slice none 0 0, .slice none 0 0] 67) = wdP at *
            generalize wd.heap.size = bp at *
            refine wpAnyH_ready (rs := [3, 6]) (by kernel_rfl) (by simp) ?_
            refine (AllReadyH.cons rfl (fun K hK => ?_) (AllReadyH.cons rfl (fun K hK => ?_) AllReadyH.nil))
            · have hmkU := hmk.out
              go_simp
              refine hK.out _ _ (hHP.alloc _) (fun hHPM => ?_)
              clear hK K hmkU
              try simp only [Act.put, List.setIfInBounds_toArray, List.set_cons_zero, List.set_cons_succ]
              have zwwdPM := hHP.size
              replace RP := hid (heap_old (o' := (.cells (Array.replicate n (.complex .f32 0 0)) 33)) RP.out)
              have HO := hid ((zeros_lit wdP n (by omega)).mono hHP.size)
              generalize wdP.alloc (.cells (Array.replicate n (.complex .f32 0 0)) 33) = wdPM at *
              generalize wdP.heap.size = bm at *
              refine wpAnyH_ready (rs := [6]) (by kernel_rfl) (by simp) ?_
              refine (AllReadyH.cons rfl (fun K hK => ?_) AllReadyH.nil)
              go_simp
              refine (hCl2.out _ hHPM).mono ?_
              rintro e wdPMC ⟨a4, c4, rfl, hV4, hG4⟩
              go_wp2_with fail
              refine hK.out _ _ (hHPM.trans hG4 fun _ _ h => h) (fun hHPMC => ?_)
              clear hK K
              try simp only [Act.put, List.setIfInBounds_toArray, List.set_cons_zero, List.set_cons_succ]
              rw [HM.out] at hV4
              have HV := hid (OwnR.mono hV4 hHPM.size)
              replace HO := hid (HO.out.chg hG4 fun _ _ _ h => h)
              replace RP := hid (hG4.heap RP.out (fun h => h))
              rw [HM.out]
              clear hV4 hG4
              refine wpAnyH_take (i := 7) (v := ?_) (oi := { dst := some 39, op := Op.build 67 #[(0, Operand.tmp 35), (1, Operand.tmp 38)], type := _, pos := _, after := _, guard := none }) rfl (by kernel_rfl) (by kernel_rfl) (by kernel_rfl) (fun _ _ _ h => h) (Or.inl ⟨by kernel_rfl, ?_⟩) (by assumption) ?_
              rotate_left
              · (intro wx hSw; (try dsimp only at hSw); go_simp) <;> with_reducible rfl
              try simp only [Act.put, List.setIfInBounds_toArray, List.set_cons_zero, List.set_cons_succ]
              refine wpAnyH_ready (rs := [9]) (by kernel_rfl) (by simp) ?_
              refine (AllReadyH.cons rfl (fun K hK => ?_) AllReadyH.nil)
              have kP := cells_at RP.out
              have fP := frees_at RP.out
              go_simp
              have zbp : wo.heap.size ≤ bp := by omega
              refine hK.out _ _ ((hHPMC.setCell (p := ⟨bp, 0, none⟩) (.inr zbp) _).setCell (p := ⟨bp, 1, none⟩) (.inr zbp) _) (fun hH9 => ?_)
              clear hK K
              try simp only [Act.put, List.setIfInBounds_toArray, List.set_cons_zero, List.set_cons_succ]
              have CV := chg_row2 wdPMC bp (.slice (some ⟨bm, 0, none⟩) n n) (.slice a4 k c4)
              replace HO := hid (HO.out.chgN CV (fun g e1 e2 => by subst e2; exact apartTC HO.out RP.out (by decide) e1))
              replace HV := hid (OwnR.chgN HV.out CV (fun g e1 e2 => by subst e2; exact apartT HV.out RP.out (by decide) e1))
              replace RP := hid (heap_row2 RP.out (.slice (some ⟨bm, 0, none⟩) n n) (.slice a4 k c4))
              refine wpAnyH_done (by kernel_rfl) ?_ _
              go_wp2_with fail
              go_meet
              exact ⟨bp, bm, a4, c4, rfl, hid ⟨zbp, RP.out, HO.out, HV.out, hH9⟩⟩
            · go_simp
              refine (hCl2.out _ hHP).mono ?_
              rintro e wdPC ⟨a4, c4, rfl, hV4, hG4⟩
              go_wp2_with fail
              refine hK.out _ _ (hHP.trans hG4 fun _ _ h => h) (fun hHPC => ?_)
              clear hK K
              try simp only [Act.put, List.setIfInBounds_toArray, List.set_cons_zero, List.set_cons_succ]
              rw [HM.out] at hV4
              have HV := hid (OwnR.mono hV4 hHP.size)
              replace RP := hid (hG4.heap RP.out (fun h => h))
              rw [HM.out]
              clear hV4 hG4
              refine wpAnyH_ready (rs := [3]) (by kernel_rfl) (by simp) ?_
              refine (AllReadyH.cons rfl (fun K hK => ?_) AllReadyH.nil)
              have hmkU := hmk.out
              go_simp
              refine hK.out _ _ (hHPC.alloc _) (fun hHPCM => ?_)
              clear hK K hmkU
              try simp only [Act.put, List.setIfInBounds_toArray, List.set_cons_zero, List.set_cons_succ]
              have zwwdPCM := hHPC.size
              replace HV := hid (HV.out.chg ((Chg.refl (fun _ => False) wdPC).alloc (.cells (Array.replicate n (.complex .f32 0 0)) 33)) fun _ _ _ h => h)
              replace RP := hid (heap_old (o' := (.cells (Array.replicate n (.complex .f32 0 0)) 33)) RP.out)
              have HO := hid ((zeros_lit wdPC n (by omega)).mono hHPC.size)
              generalize wdPC.alloc (.cells (Array.replicate n (.complex .f32 0 0)) 33) = wdPCM at *
              generalize wdPC.heap.size = bm at *
              refine wpAnyH_take (i := 7) (v := ?_) (oi := { dst := some 39, op := Op.build 67 #[(0, Operand.tmp 35), (1, Operand.tmp 38)], type := _, pos := _, after := _, guard := none }) rfl (by kernel_rfl) (by kernel_rfl) (by kernel_rfl) (fun _ _ _ h => h) (Or.inl ⟨by kernel_rfl, ?_⟩) (by assumption) ?_
              rotate_left
              · (intro wx hSw; (try dsimp only at hSw); go_simp) <;> with_reducible rfl
              try simp only [Act.put, List.setIfInBounds_toArray, List.set_cons_zero, List.set_cons_succ]
              refine wpAnyH_ready (rs := [9]) (by kernel_rfl) (by simp) ?_
              refine (AllReadyH.cons rfl (fun K hK => ?_) AllReadyH.nil)
              have kP := cells_at RP.out
              have fP := frees_at RP.out
              go_simp
              have zbp : wo.heap.size ≤ bp := by omega
              refine hK.out _ _ ((hHPCM.setCell (p := ⟨bp, 0, none⟩) (.inr zbp) _).setCell (p := ⟨bp, 1, none⟩) (.inr zbp) _) (fun hH9 => ?_)
              clear hK K
              try simp only [Act.put, List.setIfInBounds_toArray, List.set_cons_zero, List.set_cons_succ]
              have CV := chg_row2 wdPCM bp (.slice (some ⟨bm, 0, none⟩) n n) (.slice a4 k c4)
              replace HO := hid (HO.out.chgN CV (fun g e1 e2 => by subst e2; exact apartTC HO.out RP.out (by decide) e1))
              replace HV := hid (OwnR.chgN HV.out CV (fun g e1 e2 => by subst e2; exact apartT HV.out RP.out (by decide) e1))
              replace RP := hid (heap_row2 RP.out (.slice (some ⟨bm, 0, none⟩) n n) (.slice a4 k c4))
              refine wpAnyH_done (by kernel_rfl) ?_ _
              go_wp2_with fail
              go_meet
              exact ⟨bp, bm, a4, c4, rfl, hid ⟨zbp, RP.out, HO.out, HV.out, hH9⟩⟩
      case rest =>
        obtain ⟨bp, bm, a4, c4, rfl, HC⟩ := hcut
        have R1z := hid (HC.out.G.heap R1w.out (fun h => h))
        have GZ := hid (GWw.out.trans HC.out.G fun _ _ h => h)
        have RPz := hid HC.out.RP
        have HOz := hid HC.out.HO
        have HVz := hid HC.out.HV
        have zbp := HC.out.zbp
        clear HC R1w GWw RB HOw HVw x0 x1 hCl2 hCl
        have kP := cells_at RPz.out
        have kQ := cells_at R1z.out
        have fQ := frees_at R1z.out
        go_wp2_with fail
        refine wp_loop_rounds 1 ?_
        rw [rounds_succ]
        go_wp2_with fail
        have CR := chg_row2 wc (w.heap.size + 1) (.slice (some ⟨bm, 0, none⟩) n n) (.slice a4 k c4)
        refine bodyPost_ret (results_row1 (by rfl) _ _ _ (w.heap.size + 1) _ rfl (load_pool (heap_row2 R1z.out _ _) rfl)) rfl ⟨some ⟨bm, 0, none⟩, n, a4, c4, by simp [HM.out], ?_, ?_, ?_⟩
        · have o1 := HOz.out.chgN CR (fun j e1 (e2 : j = w.heap.size + 1) => by subst e2; exact apartTC HOz.out R1z.out (by decide) e1)
          simpa using o1.mono (by omega)
        · have o2 := OwnR.chgN HVz.out CR (fun j e1 (e2 : j = w.heap.size + 1) => by subst e2; exact apartT HVz.out R1z.out (by decide) e1)
          simpa [HM.out] using OwnR.mono o2 (by omega)
        · exact GZ.out.trans CR (fun j hj (e : j = w.heap.size + 1) => by omega)
end Go.Proofs.Ytopkehknaclhlaa
