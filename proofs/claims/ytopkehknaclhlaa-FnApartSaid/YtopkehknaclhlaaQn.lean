/- The program compacts a pool. Conditions: the pool is valid. (Printed by gen_qn.py.) -/
import Derived.Test.YtopkehknaclhlaaMl
import Derived.Deep.DeepCutAuto
namespace Go.Proofs.Ytopkehknaclhlaa
open Go Go.RowKit

/-- A compacted pool comes back: the rooms stand in some order. -/
def RCpt (w : World) (xs : List (Nat × Nat)) (ls : List Ls) (e : Ending) (w' : World) : Prop := ∃ ids : List Nat, ids.Perm (lentIds ls) ∧ RPl w (cpAll xs ls ids).1 (cpAll xs ls ids).2.1 e w'

/-- The lent ones below k. -/
def idsTo (ls : List Ls) (k : Nat) : List Nat := (List.range k).filter (lentB ls)
theorem idsTo_succ (ls : List Ls) (k : Nat) : idsTo ls (k + 1) = if lentB ls k then idsTo ls k ++ [k] else idsTo ls k := by
  unfold idsTo
  rw [List.range_succ, List.filter_append]
  cases h : lentB ls k <;> simp [h]
theorem idsTo_le (ls : List Ls) : ∀ k, (idsTo ls k).length ≤ k
  | 0 => by simp [idsTo]
  | k + 1 => by
    have := idsTo_le ls k
    rw [idsTo_succ]
    split
    · simp; omega
    · omega

/-- Behind the new store and the copy of the leases: a new variable. -/
structure CpMd (w2 wx : World) (bp bm : Nat) (a4 : Option Addr) (c4 n m : Nat) (ls : List Ls) : Prop where
  zbp : w2.heap.size ≤ bp
  RP : wx.heap[bp]? = some (.cells #[.slice (some ⟨bm, 0, none⟩) n n, .slice a4 m c4] 67 (0, 0))
  HO : OwnC wx w2.heap.size (.slice (some ⟨bm, 0, none⟩) n n) (List.replicate n (0, 0))
  HV : OwnL wx w2.heap.size (.slice a4 m c4) ls
  G : Chg (fun _ => False) w2 wx
theorem zeros_lit2 (w : World) (n : Nat) (hn : n ≤ 1000) : OwnC (w.alloc (.cells (Array.replicate n (.complex .f32 0 0)) 33)) w.heap.size (.slice (some ⟨w.heap.size, 0, none⟩) n n) (List.replicate n (0, 0)) := by
  have h := OwnC.lit w (List.replicate n (0, 0)) 33 rfl (by simp; omega) (base := w.heap.size) (Nat.le_refl _) (Array.replicate n (.complex .f32 0 0)) (by simp; exact .inr rfl)
  simpa using h

set_option maxRecDepth 100000 in
set_option maxHeartbeats 4000000 in
theorem CompactPool_calls (w : World) (s v : Value) (xs : List (Nat × Nat)) (ls : List Ls) (ho : OwnC w 0 s xs) (hv : OwnL w 0 v ls) (hp : POk xs.length ls) :
    Calls Try.prog 53 #[.agg #[s, v]] w (RCpt w xs ls) := by
  obtain ⟨a, c, rfl⟩ := ho.form
  obtain ⟨a2, c2, rfl⟩ := hv.form
  have n256 := hp.nle
  have m16 := hp.len
  have A1 := ((Chg.refl (fun _ => False) w).alloc (.cells #[.slice a xs.length c, .slice a2 ls.length c2] 67)).alloc (.cells #[.slice none 0 0, .slice none 0 0] 67)
  have HO := hid (ho.chg A1 fun _ _ _ h => h)
  have HV := hid (hv.chg A1 fun _ _ _ h => h)
  have R0 := hid (show ((w.alloc (.cells #[.slice a xs.length c, .slice a2 ls.length c2] 67)).alloc (.cells #[.slice none 0 0, .slice none 0 0] 67)).heap[w.heap.size]? = _ from heap_old (heap_new w _))
  have R1 := hid (show ((w.alloc (.cells #[.slice a xs.length c, .slice a2 ls.length c2] 67)).alloc (.cells #[.slice none 0 0, .slice none 0 0] 67)).heap[w.heap.size + 1]? = _ from heap_new' (w := w.alloc _) (b := w.heap.size + 1) (by simp))
  have Z1 := hid (show ((w.alloc (.cells #[.slice a xs.length c, .slice a2 ls.length c2] 67)).alloc (.cells #[.slice none 0 0, .slice none 0 0] 67)).heap.size = w.heap.size + 2 by simp)
  have GA := hid A1
  have HP := hid hp
  have hIs := hid (fun w ho hv => IsPool_calls w (.slice a xs.length c) (.slice a2 ls.length c2) xs ls ho hv hp)
  have hLe := hid (fun id w ho hv => isLent_calls w (.slice a xs.length c) (.slice a2 ls.length c2) xs ls id ho hv (by omega))
  have hmk := hid (fun w => run_make25 w xs.length (by omega))
  have hCl := hid (fun w hv => CloneL_calls w (.slice a2 ls.length c2) ls (by omega) hv)
  have HB := hid (fun g (h : some g = (Value.slice a2 ls.length c2).ownBlock) => (hv.own_lt h).2)
  clear A1 ho hv hp
  generalize hn : xs.length = n at *
  generalize hm : ls.length = m at *
  have HN := hid hn
  have HM := hid hm
  clear hn hm
  have hmf : ∀ (fn : Fn) (first cap : Array Value) (w : World), (Instr.makeFunc fn first cap).run Try.prog w = .ok (.func fn first cap) w := fun _ _ _ _ => rfl
  go_enter Try.func53, Try.ntmps53
  have kR0i := cells_at R0.out
  go_upto_region 4 with (go_at_call 106; refine (hIs.out _ HO.out HV.out).mono ?_; rintro e w1 ⟨rfl, hG⟩; have R0b := hid (hG.heap R0.out (fun h => h)); have kR0b := cells_at R0b.out; have HO1 := hid (HO.out.chg hG fun _ _ _ h => h); have HV1 := hid (HV.out.chg hG fun _ _ _ h => h); have G1 := hid hG)
  have A3 := (Chg.refl (fun _ => False) w1).alloc (.cells #[] 3)
  have R0c := hid (A3.heap R0b.out (fun h => h))
  have R1c := hid (A3.heap (G1.out.heap R1.out (fun h => h)) (fun h => h))
  have HOc := hid (HO1.out.chg A3 fun _ _ _ h => h)
  have HVc := hid (HV1.out.chg A3 fun _ _ _ h => h)
  have HI0 := hid (OwnR.lit encN w1 [] (by simp) (Nat.le_refl w1.heap.size) #[] 3 rfl rfl)
  have GW := hid (GA.out.trans G1.out fun _ _ h => h)
  have z2 : w.heap.size + 2 ≤ w1.heap.size := by have := Z1.out; have := G1.out.size; omega
  have R0w := hid (R0b.out)
  have R1w := hid (G1.out.heap R1.out (fun h => h))
  clear R0b kR0b G1 Z1 GA hG hIs R0 R1 HO HV kR0i
  have kR0 := cells_at R0c.out
  have GI := hid A3
  clear A3
  generalize hw2 : w1.alloc (.cells #[] 3) = w2 at *
  clear hw2
  go_wp2_with fail
  go_loopw [3, 18] (fun s3 i wr => ∃ (k cI : Nat) (aI : Option Addr), k ≤ m ∧ i = .int .i64 (k : Int) ∧ s3 = .slice aI (idsTo ls k).length cI ∧ Hid (OwnN wr w1.heap.size (.slice aI (idsTo ls k).length cI) ((idsTo ls k).map fun j : Nat => (j : Int))) ∧ Hid (Chg (fun _ => False) w1 wr)) (fun _ i _ => m - (intOf i).toNat)
  case atStart => exact ⟨0, 0, _, by omega, rfl, rfl, HI0, GI⟩
  case round =>
    obtain ⟨k, cI, aI, hk, rfl, rfl, HI, GR⟩ := hrel
    obtain ⟨wo, rfl⟩ : ∃ wo : World, wo = wr := ⟨_, rfl⟩
    have RB := hid (GR.out.heap R0w.out (fun h => h))
    have kRB := cells_at RB.out
    have HOw := hid (HO1.out.chg GR.out fun _ _ _ h => h)
    have HVw := hid (HV1.out.chg GR.out fun _ _ _ h => h)
    have lI := idsTo_le ls k
    clear HI0 GI kR0 R0c R1c HOc HVc
    by_cases hlt : k < m
    · have hlt' : (k : Int) < (m : Int) := by omega
      have hL := hid (hLe.out k)
      have HS := hid (idsTo_succ ls k)
      cases hl : lentB ls k
      · rw [hl] at hL HS
        clear hl
        go_wp2_with (go_at_call 107; refine (hL.out _ HOw.out HVw.out).mono ?_; rintro e w5 ⟨rfl, hG⟩)
        go_roundw
        case rel => exact ⟨k + 1, cI, aI, by omega, by go_num, by rw [HS.out]; rfl, by rw [HS.out]; exact hid (HI.out.chg hG fun _ _ _ h => h), hid (GR.out.trans hG fun _ _ h => h)⟩
        case measure => simp [intOf]; omega
      · rw [hl] at hL HS
        clear hl
        go_upto_region 8 with (go_at_call 107; refine (hL.out _ HOw.out HVw.out).mono ?_; rintro e w5 ⟨rfl, hG⟩)
        have A5 := (Chg.refl (fun _ => False) w5).alloc (.cells #[.int .i64 (k : Int)] 3)
        have HI5 := hid ((HI.out.chg hG fun _ _ _ h => h).chg A5 fun _ _ _ h => h)
        have L5 := hid (OwnR.lit encN w5 [(k : Int)] (by simp) (Nat.zero_le _) #[.int .i64 (k : Int)] 3 rfl rfl)
        have G5 := hid ((GR.out.trans hG fun _ _ h => h).trans A5 fun _ _ h => h)
        have lz5 := G5.out.size
        clear A5 HI GR RB kRB HOw HVw hL hG
        go_wp2_with (at_builtin; refine wpList_appR encN _ rfl _ _ rfl w1.heap.size _ _ ((idsTo ls k).map fun j : Nat => (j : Int)) [(k : Int)] rfl HI5.out rfl L5.out (by simp; omega) lz5 ?_)
        intro a6 c6 w6 hC6 hG6
        have G6 := hid (G5.out.trans hG6 (fun q h1 h2 => by have := HI5.out.own_lt h2; omega))
        have HC6 := hid hC6
        clear hC6 hG6 L5 HI5 G5
        go_wp2_with fail
        go_roundw
        case rel =>
          have e1 : idsTo ls (k + 1) = idsTo ls k ++ [k] := by rw [HS.out]; rfl
          exact ⟨k + 1, c6, a6, by omega, by go_num, by rw [e1]; simp, by rw [e1]; simpa using HC6, G6⟩
        case measure => simp [intOf]; omega
    · obtain rfl : m = k := by omega
      have hlt' : ¬ (m : Int) < (m : Int) := by omega
      have HST := hid (show ∀ l ∈ ls, l.st ≤ 256 from fun l hl => by
        have h := HP.out.nle
        rcases HP.out.ok l hl with ⟨_, h1, _⟩ | ⟨_, h1, h2, _⟩ <;> omega)
      have HIN := hid (show ∀ i ∈ idsTo ls m, i < ls.length from fun i hi => by
        rw [HM.out]
        exact List.mem_range.mp (List.mem_filter.mp hi).1)
      have hSo := hid (fun wx (G : Chg (fun _ => False) wo wx) => sort_own wx w.heap.size w1.heap.size cI aI (.slice a n c) (.slice a2 m c2) ls (G.heap RB.out (fun h => h)) (HVw.out.chg G fun _ _ _ h => h) HST.out (idsTo ls m) HIN.out (by omega) (HI.out.chg G fun _ _ _ h => h) (by omega) (fun g h => by have := HB.out g h; omega))
      clear hLe HST HIN
      go_upto_region 11 with (go_at_call 108; refine (hSo.out _ (Chg.refl _ _)).mono ?_; rintro e ws ⟨rfl, GS, ids, hPerm, HIs⟩)
      have G1s := hid (GR.out.trans GS (fun q hq h => by omega))
      have R0s := hid (G1s.out.heap R0w.out (fun h => h))
      have R1s := hid (G1s.out.heap R1w.out (fun h => h))
      have HOs := hid (HO1.out.chg G1s.out fun _ _ _ h => h)
      have HVs := hid (HV1.out.chg G1s.out fun _ _ _ h => h)
      have GWs := hid (GW.out.trans G1s.out fun _ _ h => h)
      have hlen := hPerm.length_eq
      have HPe := hid (show ids.Perm (lentIds ls) from by
        have e : idsTo ls m = lentIds ls := by unfold idsTo lentIds; rw [HM.out]
        rw [← e]
        exact hPerm)
      have HIS := hid HIs
      have zs := G1s.out.size
      clear hSo GR GS hPerm HIs RB kRB HOw HVw HI G1s HO1 HV1 R0w R1w GW
      rw [← hlen] at HIS lI ⊢
      generalize hL : ids.length = L at *
      have HL := hid hL
      clear hL hlen
      have x0 : ws.cell? ⟨w.heap.size, 0, none⟩ = some (.slice a n c) := cell_at R0s.out
      have x1 : ws.cell? ⟨w.heap.size, 1, none⟩ = some (.slice a2 m c2) := cell_at R0s.out
      have hCl2 := hid (fun wx (G : Chg (fun _ => False) ws wx) => hCl.out wx (HVs.out.chg G fun _ _ _ h => h))
      go_cut [5] (fun r5 wx => ∃ bp bm a4 c4, r5 = .pointer (some ⟨bp, 0, none⟩) ∧ Hid (CpMd ws wx bp bm a4 c4 n m ls))
      case first =>
        --DEV sorry
        as_aux_lemma =>
          refine wp_region_held_drew (S := fun wx => Chg (fun _ => False) ws wx) (by kernel_rfl) ((Chg.refl _ ws).drew) (fun hH => ?_)
          have zd : ws.heap.size ≤ ws.drew.heap.size := Nat.le_refl _
          generalize ws.drew = wd at *
          refine wpAnyH_take (i := 0) (v := ?_) (oi := { dst := some 32, op := Op.fieldAddr 67 (Operand.tmp 1) 0, type := _, pos := _, after := _, guard := none }) rfl (by kernel_rfl) (by kernel_rfl) (by kernel_rfl) (fun _ _ _ h => h) (Or.inl ⟨by kernel_rfl, ?_⟩) (by assumption) ?_
          rotate_left
          · (intro wx hSw; (try dsimp only at hSw); go_simp) <;> with_reducible rfl
          try simp only [Act.put, List.setIfInBounds_toArray, List.set_cons_zero, List.set_cons_succ]
          refine wpAnyH_take (i := 1) (v := ?_) (oi := { dst := some 33, op := Op.load 25 (Operand.tmp 32), type := _, pos := _, after := _, guard := none }) rfl (by kernel_rfl) (by kernel_rfl) (by kernel_rfl) (fun _ _ _ h => h) (Or.inl ⟨by kernel_rfl, ?_⟩) (by assumption) ?_
          rotate_left
          · (intro wx hSw; (try dsimp only at hSw); have y0 := hSw.cell x0 (fun h => h); go_simp) <;> with_reducible rfl
          try simp only [Act.put, List.setIfInBounds_toArray, List.set_cons_zero, List.set_cons_succ]
          refine wpAnyH_take (i := 2) (v := ?_) (oi := { dst := some 34, op := Op.call { callee := Callee.builtin Builtin.len, args := #[Operand.tmp 33], argTypes := #[25] }, type := _, pos := _, after := _, guard := none }) rfl (by kernel_rfl) (by kernel_rfl) (by kernel_rfl) (fun _ _ _ h => h) (Or.inl ⟨by kernel_rfl, ?_⟩) (by assumption) ?_
          rotate_left
          · (intro wx hSw; (try dsimp only at hSw); go_simp) <;> with_reducible rfl
          try simp only [Act.put, List.setIfInBounds_toArray, List.set_cons_zero, List.set_cons_succ]
          refine wpAnyH_take (i := 4) (v := ?_) (oi := { dst := some 36, op := Op.fieldAddr 67 (Operand.tmp 1) 1, type := _, pos := _, after := _, guard := none }) rfl (by kernel_rfl) (by kernel_rfl) (by kernel_rfl) (fun _ _ _ h => h) (Or.inl ⟨by kernel_rfl, ?_⟩) (by assumption) ?_
          rotate_left
          · (intro wx hSw; (try dsimp only at hSw); go_simp) <;> with_reducible rfl
          try simp only [Act.put, List.setIfInBounds_toArray, List.set_cons_zero, List.set_cons_succ]
          refine wpAnyH_take (i := 5) (v := ?_) (oi := { dst := some 37, op := Op.load 65 (Operand.tmp 36), type := _, pos := _, after := _, guard := none }) rfl (by kernel_rfl) (by kernel_rfl) (by kernel_rfl) (fun _ _ _ h => h) (Or.inl ⟨by kernel_rfl, ?_⟩) (by assumption) ?_
          rotate_left
          · (intro wx hSw; (try dsimp only at hSw); have y1 := hSw.cell x1 (fun h => h); go_simp) <;> with_reducible rfl
          try simp only [Act.put, List.setIfInBounds_toArray, List.set_cons_zero, List.set_cons_succ]
          refine wpAnyH_ready (rs := [3, 6, 8]) (by kernel_rfl) (by simp) ?_
          refine (AllReadyH.cons rfl (fun K hK => ?_) (AllReadyH.cons rfl (fun K hK => ?_) (AllReadyH.cons rfl (fun K hK => ?_) AllReadyH.nil)))
          · have hmkU := hmk.out
            go_simp
            refine hK.out _ _ (hH.alloc _) (fun hHM => ?_)
            clear hK K hmkU
            try simp only [Act.put, List.setIfInBounds_toArray, List.set_cons_zero, List.set_cons_succ]
            have zwwdM := hH.size
            have HO := hid ((zeros_lit2 wd n (by omega)).mono hH.size)
            generalize wd.alloc (.cells (Array.replicate n (.complex .f32 0 0)) 33) = wdM at *
            generalize wd.heap.size = bm at *
            refine wpAnyH_ready (rs := [6, 8]) (by kernel_rfl) (by simp) ?_
            refine (AllReadyH.cons rfl (fun K hK => ?_) (AllReadyH.cons rfl (fun K hK => ?_) AllReadyH.nil))
            · go_simp
              refine (hCl2.out _ hHM).mono ?_
              rintro e wdMC ⟨a4, c4, rfl, hV4, hG4⟩
              go_wp2_with fail
              refine hK.out _ _ (hHM.trans hG4 fun _ _ h => h) (fun hHMC => ?_)
              clear hK K
              try simp only [Act.put, List.setIfInBounds_toArray, List.set_cons_zero, List.set_cons_succ]
              rw [HM.out] at hV4
              have HV := hid (OwnR.mono hV4 hHM.size)
              replace HO := hid (HO.out.chg hG4 fun _ _ _ h => h)
              rw [HM.out]
              clear hV4 hG4
              refine wpAnyH_take (i := 7) (v := ?_) (oi := { dst := some 39, op := Op.build 67 #[(0, Operand.tmp 35), (1, Operand.tmp 38)], type := _, pos := _, after := _, guard := none }) rfl (by kernel_rfl) (by kernel_rfl) (by kernel_rfl) (fun _ _ _ h => h) (Or.inl ⟨by kernel_rfl, ?_⟩) (by assumption) ?_
              rotate_left
              · (intro wx hSw; (try dsimp only at hSw); go_simp) <;> with_reducible rfl
              try simp only [Act.put, List.setIfInBounds_toArray, List.set_cons_zero, List.set_cons_succ]
              refine wpAnyH_ready (rs := [8]) (by kernel_rfl) (by simp) ?_
              refine (AllReadyH.cons rfl (fun K hK => ?_) AllReadyH.nil)
              go_simp
              refine hK.out _ _ (hHMC.alloc _) (fun hHMCP => ?_)
              clear hK K
              try simp only [Act.put, List.setIfInBounds_toArray, List.set_cons_zero, List.set_cons_succ]
              have zwwdMCP := hHMC.size
              replace HO := hid (HO.out.chg ((Chg.refl (fun _ => False) wdMC).alloc (.cells #[.slice none 0 0, .slice none 0 0] 67)) fun _ _ _ h => h)
              replace HV := hid (HV.out.chg ((Chg.refl (fun _ => False) wdMC).alloc (.cells #[.slice none 0 0, .slice none 0 0] 67)) fun _ _ _ h => h)
              have RP := hid (heap_new wdMC (.cells #[.slice none 0 0, .slice none 0 0] 67))
              generalize wdMC.alloc (.cells #[.slice none 0 0, .slice none 0 0] 67) = wdMCP at *
              generalize wdMC.heap.size = bp at *
              refine wpAnyH_ready (rs := [9]) (by kernel_rfl) (by simp) ?_
              refine (AllReadyH.cons rfl (fun K hK => ?_) AllReadyH.nil)
              have kP := cells_at RP.out
              have fP := frees_at RP.out
              go_simp
              have zbp : ws.heap.size ≤ bp := by omega
              refine hK.out _ _ ((hHMCP.setCell (p := ⟨bp, 0, none⟩) (.inr zbp) _).setCell (p := ⟨bp, 1, none⟩) (.inr zbp) _) (fun hH9 => ?_)
              clear hK K
              try simp only [Act.put, List.setIfInBounds_toArray, List.set_cons_zero, List.set_cons_succ]
              have CV := chg_row2 wdMCP bp (.slice (some ⟨bm, 0, none⟩) n n) (.slice a4 m c4)
              replace HO := hid (HO.out.chgN CV (fun g e1 e2 => by subst e2; exact apartTC HO.out RP.out (by decide) e1))
              replace HV := hid (OwnR.chgN HV.out CV (fun g e1 e2 => by subst e2; exact apartT HV.out RP.out (by decide) e1))
              replace RP := hid (heap_row2 RP.out (.slice (some ⟨bm, 0, none⟩) n n) (.slice a4 m c4))
              refine wpAnyH_done (by kernel_rfl) ?_ _
              go_wp2_with fail
              go_meet
              exact ⟨bp, bm, a4, c4, rfl, hid ⟨zbp, RP.out, HO.out, HV.out, hH9⟩⟩
            · go_simp
              refine hK.out _ _ (hHM.alloc _) (fun hHMP => ?_)
              clear hK K
              try simp only [Act.put, List.setIfInBounds_toArray, List.set_cons_zero, List.set_cons_succ]
              have zwwdMP := hHM.size
              replace HO := hid (HO.out.chg ((Chg.refl (fun _ => False) wdM).alloc (.cells #[.slice none 0 0, .slice none 0 0] 67)) fun _ _ _ h => h)
              have RP := hid (heap_new wdM (.cells #[.slice none 0 0, .slice none 0 0] 67))
              generalize wdM.alloc (.cells #[.slice none 0 0, .slice none 0 0] 67) = wdMP at *
              generalize wdM.heap.size = bp at *
              refine wpAnyH_ready (rs := [6]) (by kernel_rfl) (by simp) ?_
              refine (AllReadyH.cons rfl (fun K hK => ?_) AllReadyH.nil)
              go_simp
              refine (hCl2.out _ hHMP).mono ?_
              rintro e wdMPC ⟨a4, c4, rfl, hV4, hG4⟩
              go_wp2_with fail
              refine hK.out _ _ (hHMP.trans hG4 fun _ _ h => h) (fun hHMPC => ?_)
              clear hK K
              try simp only [Act.put, List.setIfInBounds_toArray, List.set_cons_zero, List.set_cons_succ]
              rw [HM.out] at hV4
              have HV := hid (OwnR.mono hV4 hHMP.size)
              replace HO := hid (HO.out.chg hG4 fun _ _ _ h => h)
              replace RP := hid (hG4.heap RP.out (fun h => h))
              rw [HM.out]
              clear hV4 hG4
              refine wpAnyH_take (i := 7) (v := ?_) (oi := { dst := some 39, op := Op.build 67 #[(0, Operand.tmp 35), (1, Operand.tmp 38)], type := _, pos := _, after := _, guard := none }) rfl (by kernel_rfl) (by kernel_rfl) (by kernel_rfl) (fun _ _ _ h => h) (Or.inl ⟨by kernel_rfl, ?_⟩) (by assumption) ?_
              rotate_left
              · (intro wx hSw; (try dsimp only at hSw); go_simp) <;> with_reducible rfl
              try simp only [Act.put, List.setIfInBounds_toArray, List.set_cons_zero, List.set_cons_succ]
              refine wpAnyH_ready (rs := [9]) (by kernel_rfl) (by simp) ?_
              refine (AllReadyH.cons rfl (fun K hK => ?_) AllReadyH.nil)
              have kP := cells_at RP.out
              have fP := frees_at RP.out
              go_simp
              have zbp : ws.heap.size ≤ bp := by omega
              refine hK.out _ _ ((hHMPC.setCell (p := ⟨bp, 0, none⟩) (.inr zbp) _).setCell (p := ⟨bp, 1, none⟩) (.inr zbp) _) (fun hH9 => ?_)
              clear hK K
              try simp only [Act.put, List.setIfInBounds_toArray, List.set_cons_zero, List.set_cons_succ]
              have CV := chg_row2 wdMPC bp (.slice (some ⟨bm, 0, none⟩) n n) (.slice a4 m c4)
              replace HO := hid (HO.out.chgN CV (fun g e1 e2 => by subst e2; exact apartTC HO.out RP.out (by decide) e1))
              replace HV := hid (OwnR.chgN HV.out CV (fun g e1 e2 => by subst e2; exact apartT HV.out RP.out (by decide) e1))
              replace RP := hid (heap_row2 RP.out (.slice (some ⟨bm, 0, none⟩) n n) (.slice a4 m c4))
              refine wpAnyH_done (by kernel_rfl) ?_ _
              go_wp2_with fail
              go_meet
              exact ⟨bp, bm, a4, c4, rfl, hid ⟨zbp, RP.out, HO.out, HV.out, hH9⟩⟩
          · go_simp
            refine (hCl2.out _ hH).mono ?_
            rintro e wdC ⟨a4, c4, rfl, hV4, hG4⟩
            go_wp2_with fail
            refine hK.out _ _ (hH.trans hG4 fun _ _ h => h) (fun hHC => ?_)
            clear hK K
            try simp only [Act.put, List.setIfInBounds_toArray, List.set_cons_zero, List.set_cons_succ]
            rw [HM.out] at hV4
            have HV := hid (OwnR.mono hV4 hH.size)
            rw [HM.out]
            clear hV4 hG4
            refine wpAnyH_ready (rs := [3, 8]) (by kernel_rfl) (by simp) ?_
            refine (AllReadyH.cons rfl (fun K hK => ?_) (AllReadyH.cons rfl (fun K hK => ?_) AllReadyH.nil))
            · have hmkU := hmk.out
              go_simp
              refine hK.out _ _ (hHC.alloc _) (fun hHCM => ?_)
              clear hK K hmkU
              try simp only [Act.put, List.setIfInBounds_toArray, List.set_cons_zero, List.set_cons_succ]
              have zwwdCM := hHC.size
              replace HV := hid (HV.out.chg ((Chg.refl (fun _ => False) wdC).alloc (.cells (Array.replicate n (.complex .f32 0 0)) 33)) fun _ _ _ h => h)
              have HO := hid ((zeros_lit2 wdC n (by omega)).mono hHC.size)
              generalize wdC.alloc (.cells (Array.replicate n (.complex .f32 0 0)) 33) = wdCM at *
              generalize wdC.heap.size = bm at *
              refine wpAnyH_take (i := 7) (v := ?_) (oi := { dst := some 39, op := Op.build 67 #[(0, Operand.tmp 35), (1, Operand.tmp 38)], type := _, pos := _, after := _, guard := none }) rfl (by kernel_rfl) (by kernel_rfl) (by kernel_rfl) (fun _ _ _ h => h) (Or.inl ⟨by kernel_rfl, ?_⟩) (by assumption) ?_
              rotate_left
              · (intro wx hSw; (try dsimp only at hSw); go_simp) <;> with_reducible rfl
              try simp only [Act.put, List.setIfInBounds_toArray, List.set_cons_zero, List.set_cons_succ]
              refine wpAnyH_ready (rs := [8]) (by kernel_rfl) (by simp) ?_
              refine (AllReadyH.cons rfl (fun K hK => ?_) AllReadyH.nil)
              go_simp
              refine hK.out _ _ (hHCM.alloc _) (fun hHCMP => ?_)
              clear hK K
              try simp only [Act.put, List.setIfInBounds_toArray, List.set_cons_zero, List.set_cons_succ]
              have zwwdCMP := hHCM.size
              replace HO := hid (HO.out.chg ((Chg.refl (fun _ => False) wdCM).alloc (.cells #[.slice none 0 0, .slice none 0 0] 67)) fun _ _ _ h => h)
              replace HV := hid (HV.out.chg ((Chg.refl (fun _ => False) wdCM).alloc (.cells #[.slice none 0 0, .slice none 0 0] 67)) fun _ _ _ h => h)
              have RP := hid (heap_new wdCM (.cells #[.slice none 0 0, .slice none 0 0] 67))
              generalize wdCM.alloc (.cells #[.slice none 0 0, .slice none 0 0] 67) = wdCMP at *
              generalize wdCM.heap.size = bp at *
              refine wpAnyH_ready (rs := [9]) (by kernel_rfl) (by simp) ?_
              refine (AllReadyH.cons rfl (fun K hK => ?_) AllReadyH.nil)
              have kP := cells_at RP.out
              have fP := frees_at RP.out
              go_simp
              have zbp : ws.heap.size ≤ bp := by omega
              refine hK.out _ _ ((hHCMP.setCell (p := ⟨bp, 0, none⟩) (.inr zbp) _).setCell (p := ⟨bp, 1, none⟩) (.inr zbp) _) (fun hH9 => ?_)
              clear hK K
              try simp only [Act.put, List.setIfInBounds_toArray, List.set_cons_zero, List.set_cons_succ]
              have CV := chg_row2 wdCMP bp (.slice (some ⟨bm, 0, none⟩) n n) (.slice a4 m c4)
              replace HO := hid (HO.out.chgN CV (fun g e1 e2 => by subst e2; exact apartTC HO.out RP.out (by decide) e1))
              replace HV := hid (OwnR.chgN HV.out CV (fun g e1 e2 => by subst e2; exact apartT HV.out RP.out (by decide) e1))
              replace RP := hid (heap_row2 RP.out (.slice (some ⟨bm, 0, none⟩) n n) (.slice a4 m c4))
              refine wpAnyH_done (by kernel_rfl) ?_ _
              go_wp2_with fail
              go_meet
              exact ⟨bp, bm, a4, c4, rfl, hid ⟨zbp, RP.out, HO.out, HV.out, hH9⟩⟩
            · go_simp
              refine hK.out _ _ (hHC.alloc _) (fun hHCP => ?_)
              clear hK K
              try simp only [Act.put, List.setIfInBounds_toArray, List.set_cons_zero, List.set_cons_succ]
              have zwwdCP := hHC.size
              replace HV := hid (HV.out.chg ((Chg.refl (fun _ => False) wdC).alloc (.cells #[.slice none 0 0, .slice none 0 0] 67)) fun _ _ _ h => h)
              have RP := hid (heap_new wdC (.cells #[.slice none 0 0, .slice none 0 0] 67))
              generalize wdC.alloc (.cells #[.slice none 0 0, .slice none 0 0] 67) = wdCP at *
              generalize wdC.heap.size = bp at *
              refine wpAnyH_ready (rs := [3]) (by kernel_rfl) (by simp) ?_
              refine (AllReadyH.cons rfl (fun K hK => ?_) AllReadyH.nil)
              have hmkU := hmk.out
              go_simp
              refine hK.out _ _ (hHCP.alloc _) (fun hHCPM => ?_)
              clear hK K hmkU
              try simp only [Act.put, List.setIfInBounds_toArray, List.set_cons_zero, List.set_cons_succ]
              have zwwdCPM := hHCP.size
              replace HV := hid (HV.out.chg ((Chg.refl (fun _ => False) wdCP).alloc (.cells (Array.replicate n (.complex .f32 0 0)) 33)) fun _ _ _ h => h)
              replace RP := hid (heap_old (o' := (.cells (Array.replicate n (.complex .f32 0 0)) 33)) RP.out)
              have HO := hid ((zeros_lit2 wdCP n (by omega)).mono hHCP.size)
              generalize wdCP.alloc (.cells (Array.replicate n (.complex .f32 0 0)) 33) = wdCPM at *
              generalize wdCP.heap.size = bm at *
              refine wpAnyH_take (i := 7) (v := ?_) (oi := { dst := some 39, op := Op.build 67 #[(0, Operand.tmp 35), (1, Operand.tmp 38)], type := _, pos := _, after := _, guard := none }) rfl (by kernel_rfl) (by kernel_rfl) (by kernel_rfl) (fun _ _ _ h => h) (Or.inl ⟨by kernel_rfl, ?_⟩) (by assumption) ?_
              rotate_left
              · (intro wx hSw; (try dsimp only at hSw); go_simp) <;> with_reducible rfl
              try simp only [Act.put, List.setIfInBounds_toArray, List.set_cons_zero, List.set_cons_succ]
              refine wpAnyH_ready (rs := [9]) (by kernel_rfl) (by simp) ?_
              refine (AllReadyH.cons rfl (fun K hK => ?_) AllReadyH.nil)
              have kP := cells_at RP.out
              have fP := frees_at RP.out
              go_simp
              have zbp : ws.heap.size ≤ bp := by omega
              refine hK.out _ _ ((hHCPM.setCell (p := ⟨bp, 0, none⟩) (.inr zbp) _).setCell (p := ⟨bp, 1, none⟩) (.inr zbp) _) (fun hH9 => ?_)
              clear hK K
              try simp only [Act.put, List.setIfInBounds_toArray, List.set_cons_zero, List.set_cons_succ]
              have CV := chg_row2 wdCPM bp (.slice (some ⟨bm, 0, none⟩) n n) (.slice a4 m c4)
              replace HO := hid (HO.out.chgN CV (fun g e1 e2 => by subst e2; exact apartTC HO.out RP.out (by decide) e1))
              replace HV := hid (OwnR.chgN HV.out CV (fun g e1 e2 => by subst e2; exact apartT HV.out RP.out (by decide) e1))
              replace RP := hid (heap_row2 RP.out (.slice (some ⟨bm, 0, none⟩) n n) (.slice a4 m c4))
              refine wpAnyH_done (by kernel_rfl) ?_ _
              go_wp2_with fail
              go_meet
              exact ⟨bp, bm, a4, c4, rfl, hid ⟨zbp, RP.out, HO.out, HV.out, hH9⟩⟩
          · go_simp
            refine hK.out _ _ (hH.alloc _) (fun hHP => ?_)
            clear hK K
            try simp only [Act.put, List.setIfInBounds_toArray, List.set_cons_zero, List.set_cons_succ]
            have zwwdP := hH.size
            have RP := hid (heap_new wd (.cells #[.slice none 0 0, .slice none 0 0] 67))
            generalize wd.alloc (.cells #[.slice none 0 0, .slice none 0 0] 67) = wdP at *
            generalize wd.heap.size = bp at *
            refine wpAnyH_ready (rs := [3, 6]) (by kernel_rfl) (by simp) ?_
            refine (AllReadyH.cons rfl (fun K hK => ?_) (AllReadyH.cons rfl (fun K hK => ?_) AllReadyH.nil))
            · have hmkU := hmk.out
              go_simp
              refine hK.out _ _ (hHP.alloc _) (fun hHPM => ?_)
              clear hK K hmkU
              try simp only [Act.put, List.setIfInBounds_toArray, List.set_cons_zero, List.set_cons_succ]
              have zwwdPM := hHP.size
              replace RP := hid (heap_old (o' := (.cells (Array.replicate n (.complex .f32 0 0)) 33)) RP.out)
              have HO := hid ((zeros_lit2 wdP n (by omega)).mono hHP.size)
              generalize wdP.alloc (.cells (Array.replicate n (.complex .f32 0 0)) 33) = wdPM at *
              generalize wdP.heap.size = bm at *
              refine wpAnyH_ready (rs := [6]) (by kernel_rfl) (by simp) ?_
              refine (AllReadyH.cons rfl (fun K hK => ?_) AllReadyH.nil)
              go_simp
              refine (hCl2.out _ hHPM).mono ?_
              rintro e wdPMC ⟨a4, c4, rfl, hV4, hG4⟩
              go_wp2_with fail
              refine hK.out _ _ (hHPM.trans hG4 fun _ _ h => h) (fun hHPMC => ?_)
              clear hK K
              try simp only [Act.put, List.setIfInBounds_toArray, List.set_cons_zero, List.set_cons_succ]
              rw [HM.out] at hV4
              have HV := hid (OwnR.mono hV4 hHPM.size)
              replace HO := hid (HO.out.chg hG4 fun _ _ _ h => h)
              replace RP := hid (hG4.heap RP.out (fun h => h))
              rw [HM.out]
              clear hV4 hG4
              refine wpAnyH_take (i := 7) (v := ?_) (oi := { dst := some 39, op := Op.build 67 #[(0, Operand.tmp 35), (1, Operand.tmp 38)], type := _, pos := _, after := _, guard := none }) rfl (by kernel_rfl) (by kernel_rfl) (by kernel_rfl) (fun _ _ _ h => h) (Or.inl ⟨by kernel_rfl, ?_⟩) (by assumption) ?_
              rotate_left
              · (intro wx hSw; (try dsimp only at hSw); go_simp) <;> with_reducible rfl
              try simp only [Act.put, List.setIfInBounds_toArray, List.set_cons_zero, List.set_cons_succ]
              refine wpAnyH_ready (rs := [9]) (by kernel_rfl) (by simp) ?_
              refine (AllReadyH.cons rfl (fun K hK => ?_) AllReadyH.nil)
              have kP := cells_at RP.out
              have fP := frees_at RP.out
              go_simp
              have zbp : ws.heap.size ≤ bp := by omega
              refine hK.out _ _ ((hHPMC.setCell (p := ⟨bp, 0, none⟩) (.inr zbp) _).setCell (p := ⟨bp, 1, none⟩) (.inr zbp) _) (fun hH9 => ?_)
              clear hK K
              try simp only [Act.put, List.setIfInBounds_toArray, List.set_cons_zero, List.set_cons_succ]
              have CV := chg_row2 wdPMC bp (.slice (some ⟨bm, 0, none⟩) n n) (.slice a4 m c4)
              replace HO := hid (HO.out.chgN CV (fun g e1 e2 => by subst e2; exact apartTC HO.out RP.out (by decide) e1))
              replace HV := hid (OwnR.chgN HV.out CV (fun g e1 e2 => by subst e2; exact apartT HV.out RP.out (by decide) e1))
              replace RP := hid (heap_row2 RP.out (.slice (some ⟨bm, 0, none⟩) n n) (.slice a4 m c4))
              refine wpAnyH_done (by kernel_rfl) ?_ _
              go_wp2_with fail
              go_meet
              exact ⟨bp, bm, a4, c4, rfl, hid ⟨zbp, RP.out, HO.out, HV.out, hH9⟩⟩
            · go_simp
              refine (hCl2.out _ hHP).mono ?_
              rintro e wdPC ⟨a4, c4, rfl, hV4, hG4⟩
              go_wp2_with fail
              refine hK.out _ _ (hHP.trans hG4 fun _ _ h => h) (fun hHPC => ?_)
              clear hK K
              try simp only [Act.put, List.setIfInBounds_toArray, List.set_cons_zero, List.set_cons_succ]
              rw [HM.out] at hV4
              have HV := hid (OwnR.mono hV4 hHP.size)
              replace RP := hid (hG4.heap RP.out (fun h => h))
              rw [HM.out]
              clear hV4 hG4
              refine wpAnyH_ready (rs := [3]) (by kernel_rfl) (by simp) ?_
              refine (AllReadyH.cons rfl (fun K hK => ?_) AllReadyH.nil)
              have hmkU := hmk.out
              go_simp
              refine hK.out _ _ (hHPC.alloc _) (fun hHPCM => ?_)
              clear hK K hmkU
              try simp only [Act.put, List.setIfInBounds_toArray, List.set_cons_zero, List.set_cons_succ]
              have zwwdPCM := hHPC.size
              replace HV := hid (HV.out.chg ((Chg.refl (fun _ => False) wdPC).alloc (.cells (Array.replicate n (.complex .f32 0 0)) 33)) fun _ _ _ h => h)
              replace RP := hid (heap_old (o' := (.cells (Array.replicate n (.complex .f32 0 0)) 33)) RP.out)
              have HO := hid ((zeros_lit2 wdPC n (by omega)).mono hHPC.size)
              generalize wdPC.alloc (.cells (Array.replicate n (.complex .f32 0 0)) 33) = wdPCM at *
              generalize wdPC.heap.size = bm at *
              refine wpAnyH_take (i := 7) (v := ?_) (oi := { dst := some 39, op := Op.build 67 #[(0, Operand.tmp 35), (1, Operand.tmp 38)], type := _, pos := _, after := _, guard := none }) rfl (by kernel_rfl) (by kernel_rfl) (by kernel_rfl) (fun _ _ _ h => h) (Or.inl ⟨by kernel_rfl, ?_⟩) (by assumption) ?_
              rotate_left
              · (intro wx hSw; (try dsimp only at hSw); go_simp) <;> with_reducible rfl
              try simp only [Act.put, List.setIfInBounds_toArray, List.set_cons_zero, List.set_cons_succ]
              refine wpAnyH_ready (rs := [9]) (by kernel_rfl) (by simp) ?_
              refine (AllReadyH.cons rfl (fun K hK => ?_) AllReadyH.nil)
              have kP := cells_at RP.out
              have fP := frees_at RP.out
              go_simp
              have zbp : ws.heap.size ≤ bp := by omega
              refine hK.out _ _ ((hHPCM.setCell (p := ⟨bp, 0, none⟩) (.inr zbp) _).setCell (p := ⟨bp, 1, none⟩) (.inr zbp) _) (fun hH9 => ?_)
              clear hK K
              try simp only [Act.put, List.setIfInBounds_toArray, List.set_cons_zero, List.set_cons_succ]
              have CV := chg_row2 wdPCM bp (.slice (some ⟨bm, 0, none⟩) n n) (.slice a4 m c4)
              replace HO := hid (HO.out.chgN CV (fun g e1 e2 => by subst e2; exact apartTC HO.out RP.out (by decide) e1))
              replace HV := hid (OwnR.chgN HV.out CV (fun g e1 e2 => by subst e2; exact apartT HV.out RP.out (by decide) e1))
              replace RP := hid (heap_row2 RP.out (.slice (some ⟨bm, 0, none⟩) n n) (.slice a4 m c4))
              refine wpAnyH_done (by kernel_rfl) ?_ _
              go_wp2_with fail
              go_meet
              exact ⟨bp, bm, a4, c4, rfl, hid ⟨zbp, RP.out, HO.out, HV.out, hH9⟩⟩
        --END
      case rest =>
        obtain ⟨bp, bm, a4, c4, rfl, HC⟩ := hcut
        clear x0 x1 hCl2 hCl
        have HCG := hid HC.out.G
        have HRP := hid HC.out.RP
        have HOz := hid (show OwnC wc ws.heap.size (.slice (some ⟨bm, 0, none⟩) n n) (cpAll xs ls (ids.take 0)).1 from by
          show OwnC wc ws.heap.size (.slice (some ⟨bm, 0, none⟩) n n) (List.replicate xs.length (0, 0))
          rw [HN.out]
          exact HC.out.HO)
        have HVz := hid (show OwnL wc ws.heap.size (.slice a4 m c4) (cpAll xs ls (ids.take 0)).2.1 from HC.out.HV)
        have zbp := HC.out.zbp
        clear HC
        go_wp2_with fail
        go_loopw [6, 42] (fun s6 i wr => ∃ (k : Nat), k ≤ L ∧ i = .int .i64 (k : Int) ∧ s6 = .int .i64 ((cpAll xs ls (ids.take k)).2.2 : Int) ∧ Hid (wr.heap[bp]? = some (.cells #[.slice (some ⟨bm, 0, none⟩) n n, .slice a4 m c4] 67 (0, 0))) ∧ Hid (OwnC wr ws.heap.size (.slice (some ⟨bm, 0, none⟩) n n) (cpAll xs ls (ids.take k)).1) ∧ Hid (OwnL wr ws.heap.size (.slice a4 m c4) (cpAll xs ls (ids.take k)).2.1) ∧ Hid (Chg (fun _ => False) ws wr)) (fun _ i _ => L - (intOf i).toNat)
        case atStart => exact ⟨0, by omega, rfl, rfl, HRP, HOz, HVz, HCG⟩
        case round =>
          obtain ⟨k, hk, rfl, rfl, RPr, HOr, HVr, GR⟩ := hrel
          obtain ⟨wo, rfl⟩ : ∃ wo : World, wo = wr := ⟨_, rfl⟩
          have zr := GR.out.size
          have R0r := hid (GR.out.heap R0s.out (fun h => h))
          have R1r := hid (GR.out.heap R1s.out (fun h => h))
          have SOr := hid (HOs.out.chg GR.out fun _ _ _ h => h)
          have SVr := hid (HVs.out.chg GR.out fun _ _ _ h => h)
          have SIr := hid (HIS.out.chg GR.out fun _ _ _ h => h)
          clear HRP HOz HVz HCG
          by_cases hlt : k < L
          · have hlt' : (k : Int) < (L : Int) := by omega
            obtain ⟨l, hl, hlf, hlm, hln, hlc, hat, hms, hnext⟩ := cp_at (xs := xs) (ls := ls) (by rw [HN.out]; exact HP.out) HPe.out (k := k) (by rw [HL.out]; exact hlt)
            obtain ⟨gi, cc, cur, hv, _, hgi, _, hih, z, hz, hiz⟩ := OwnN.int SIr.out (by rw [List.length_map]; exact HL.out) hlt
            simp at hv
            obtain ⟨rfl, rfl⟩ := hv
            obtain rfl : ((ids[k]'(by rw [HL.out]; exact hlt) : Nat) : Int) = z := by
              rw [List.getElem?_map, List.getElem?_eq_getElem (by rw [HL.out]; exact hlt)] at hz
              exact Option.some.inj hz
            have HNX := hid hnext
            clear hnext hz
            generalize ids[k]'(by rw [HL.out]; exact hlt) = id at *
            rw [HM.out] at hlm
            rw [HN.out] at hln hat
            obtain ⟨g2, cc2, cur2, hv2, hg20, hg21, hg2c, hgh2, l2, hl2, j0, j1, j2, j3⟩ := OwnL.lease SVr.out HM.out hlm
            simp at hv2
            obtain ⟨rfl, rfl⟩ := hv2
            obtain rfl : l = l2 := by rw [hl] at hl2; exact Option.some.inj hl2
            rw [hlf] at j3
            have HLF := hid hlf
            have HLL := hid hl
            have HMS := hid hms
            have kR0 := cells_at R0r.out
            have i1 : (id : Int) < (m : Int) := by omega
            have i0 : ¬ ((id : Int) < 0) := by omega
            clear hl2 hl hgh2 hg2c hg20 hih hms hlf
            go_upto_region 17 with fail
            generalize hst : l.st = p at *
            generalize hct : l.ct = q at *
            generalize hrm : l.rm = r at *
            have HST := hid hst
            have HCT := hid hct
            have HRM := hid hrm
            have hr1 : 1 ≤ r := by
              have h := HP.out.ok l (List.mem_of_getElem? HLL.out)
              rcases h with ⟨h, _⟩ | ⟨_, h1, _⟩
              · rw [HLF.out] at h; cases h
              · omega
            clear hst hct hrm
            generalize hcur : cpAll xs ls (ids.take k) = cst at *
            have HCUR := hid hcur
            clear hcur
            obtain ⟨ys, ms, T⟩ := cst
            dsimp only at hat HMS HOr HVr HNX
            have A9 := (Chg.refl (fun _ => False) wo).alloc (.cells #[.int .i64 (p : Int), .int .i64 (q : Int), .int .i64 (r : Int), .bool false] 71)
            have R9 := hid (heap_new wo (.cells #[.int .i64 (p : Int), .int .i64 (q : Int), .int .i64 (r : Int), .bool false] 71))
            have RP9 := hid (A9.heap RPr.out (fun h => h))
            have R09 := hid (A9.heap R0r.out (fun h => h))
            have R19 := hid (A9.heap R1r.out (fun h => h))
            have SO9 := hid (SOr.out.chg A9 fun _ _ _ h => h)
            have SV9 := hid (SVr.out.chg A9 fun _ _ _ h => h)
            have SI9 := hid (SIr.out.chg A9 fun _ _ _ h => h)
            have HO9 := hid (HOr.out.chg A9 fun _ _ _ h => h)
            have HV9 := hid (HVr.out.chg A9 fun _ _ _ h => h)
            have G9 := hid (GR.out.trans A9 fun _ _ h => h)
            have z9 : wo.heap.size < (wo.alloc (.cells #[.int .i64 (p : Int), .int .i64 (q : Int), .int .i64 (r : Int), .bool false] 71)).heap.size := by simp
            have hbpo : bp < wo.heap.size := heap_lt RPr.out
            have HB4 := hid (fun g (h : some g = (Value.slice a4 m c4).ownBlock) => (HVr.out.own_lt h).2)
            clear A9 RPr R0r R1r SOr SVr SIr HOr HVr GR kR0 j0 j1 j2 j3 hiz
            generalize hw3 : wo.alloc (.cells #[.int .i64 (p : Int), .int .i64 (q : Int), .int .i64 (r : Int), .bool false] 71) = w3 at *
            clear hw3
            have HYL := hid (show ys.length = n from by
              have h := (Cp.all (xs := xs) (ls := ls) (by rw [HN.out]; exact HP.out) HPe.out k (by rw [HL.out]; exact hk)).ylen
              rw [HCUR.out, HN.out] at h
              exact h)
            have HML := hid (show ms.length = m from by
              have h := (Cp.all (xs := xs) (ls := ls) (by rw [HN.out]; exact HP.out) HPe.out k (by rw [HL.out]; exact hk)).mlen
              rw [HCUR.out, HM.out] at h
              exact h)
            obtain ⟨g1, ca, curc, hva, hga, hgb, hgd, hgha, hcl⟩ := SO9.out.at2 (n := n) HN.out (by omega)
            simp at hva
            obtain ⟨rfl, rfl⟩ := hva
            obtain ⟨g3, cb, curd, hvb, hgc, hge, hgf, hghb, hcl3⟩ := HO9.out.at2 (n := n) HYL.out (by omega)
            simp at hvb
            obtain ⟨rfl, rfl⟩ := hvb
            obtain ⟨zs2, hzs, hzl⟩ : ∃ zs2, zs2 = (xs.drop p).take r ∧ zs2.length = r := ⟨_, rfl, by rw [List.length_take, List.length_drop]; have := HN.out; omega⟩
            have HZS := hid hzs
            have fb := frees_at hghb
            have s0 : IntKind.i64.wrap ((p : Int) + (r : Int)) = (p : Int) + (r : Int) := by rw [IntKind.wrap_i64]; omega
            have s1 : (p : Int) ≤ (p : Int) + (r : Int) := by omega
            have s2 : (p : Int) + (r : Int) ≤ (c : Int) := by omega
            have s3 : (0 : Int) ≤ (T : Int) := by omega
            have s4 : (T : Int) ≤ (n : Int) := by omega
            have s5 : (0 : Int) ≤ (p : Int) := by omega
            have u2 : ∀ j (hj : j < zs2.length), w3.drew.cell? ⟨g1, p + j, none⟩ = some (cx zs2[j]) := fun j hj => by
              show w3.cell? _ = _
              rw [cell_at hgha, hcl (p + j) (by omega)]
              congr 2
              simp only [hzs, List.getD_eq_getElem?_getD]
              rw [List.getElem_take, List.getElem_drop, List.getElem?_eq_getElem (by have := HN.out; omega)]
              rfl
            have hcc : ∀ j, j < zs2.length → (w3.drew.cell? ⟨bm, T + j, none⟩).isSome = true := fun j hj => by show (w3.cell? _).isSome = true; rw [cell_at hghb, hcl3 _ (by omega)]; rfl
            have hcf : ∀ j, j < zs2.length → w3.drew.frozen? ⟨bm, T + j, none⟩ = false := fun j _ => fb _
            have d0 : w3.drew.cell? ⟨bp, 0, none⟩ = some (.slice (some ⟨bm, 0, none⟩) n n) := cell_at RP9.out
            have d1 : w3.drew.cell? ⟨w.heap.size, 0, none⟩ = some (.slice (some ⟨g1, 0, none⟩) n c) := cell_at R09.out
            have d2 : w3.drew.cell? ⟨wo.heap.size, 0, none⟩ = some (.int .i64 (p : Int)) := cell_at R9.out
            have d3 : w3.drew.cell? ⟨wo.heap.size, 2, none⟩ = some (.int .i64 (r : Int)) := cell_at R9.out
            have CZ := hid ((Chg.refl (fun j => j = bm) w3).drew.trans (chg_setCells bm (zs2.map cx) T w3.drew) fun _ _ h => h)
            have e0 := CZ.out.cell d0 (by show ¬ (bp = bm); intro e; subst e; exact apartTC HO9.out RP9.out (by decide) rfl)
            have e1 := CZ.out.cell d1 (by show ¬ (w.heap.size = bm); omega)
            have e2 := CZ.out.cell d2 (by show ¬ (wo.heap.size = bm); intro e; rw [e] at R9; exact apartTC HO9.out R9.out (by decide) rfl)
            have e3 := CZ.out.cell d3 (by show ¬ (wo.heap.size = bm); intro e; rw [e] at R9; exact apartTC HO9.out R9.out (by decide) rfl)
            refine wp_region_held_drew (S := fun wx => wx.cell? ⟨bp, 0, none⟩ = some (.slice (some ⟨bm, 0, none⟩) n n) ∧ wx.cell? ⟨w.heap.size, 0, none⟩ = some (.slice (some ⟨g1, 0, none⟩) n c) ∧ wx.cell? ⟨wo.heap.size, 0, none⟩ = some (.int .i64 (p : Int)) ∧ wx.cell? ⟨wo.heap.size, 2, none⟩ = some (.int .i64 (r : Int))) (by kernel_rfl) ⟨d0, d1, d2, d3⟩ (fun hH => ?_)
            refine wpAnyH_take (i := 0) (v := ?_) (oi := { dst := some 51, op := Op.fieldAddr 67 (Operand.tmp 5) 0, type := _, pos := _, after := _, guard := none }) rfl (by kernel_rfl) (by kernel_rfl) (by kernel_rfl) (fun _ _ _ h => h) (Or.inl ⟨by kernel_rfl, ?_⟩) (by assumption) ?_
            rotate_left
            · (intro wx hSw; (try dsimp only at hSw); obtain ⟨y0, y1, y2, y3⟩ := hSw; go_simp) <;> with_reducible rfl
            try simp only [Act.put, List.setIfInBounds_toArray, List.set_cons_zero, List.set_cons_succ]
            refine wpAnyH_take (i := 1) (v := ?_) (oi := { dst := some 52, op := Op.load 25 (Operand.tmp 51), type := _, pos := _, after := _, guard := none }) rfl (by kernel_rfl) (by kernel_rfl) (by kernel_rfl) (fun _ _ _ h => h) (Or.inl ⟨by kernel_rfl, ?_⟩) (by assumption) ?_
            rotate_left
            · (intro wx hSw; (try dsimp only at hSw); obtain ⟨y0, y1, y2, y3⟩ := hSw; go_simp) <;> with_reducible rfl
            try simp only [Act.put, List.setIfInBounds_toArray, List.set_cons_zero, List.set_cons_succ]
            refine wpAnyH_take (i := 2) (v := ?_) (oi := { dst := some 53, op := Op.move (Operand.tmp 6), type := _, pos := _, after := _, guard := none }) rfl (by kernel_rfl) (by kernel_rfl) (by kernel_rfl) (fun _ _ _ h => h) (Or.inl ⟨by kernel_rfl, ?_⟩) (by assumption) ?_
            rotate_left
            · (intro wx hSw; (try dsimp only at hSw); obtain ⟨y0, y1, y2, y3⟩ := hSw; go_simp) <;> with_reducible rfl
            try simp only [Act.put, List.setIfInBounds_toArray, List.set_cons_zero, List.set_cons_succ]
            refine wpAnyH_take (i := 3) (v := ?_) (oi := { dst := some 54, op := Op.slice 25 (Operand.tmp 52) (some (Operand.tmp 53)) none none, type := _, pos := _, after := _, guard := none }) rfl (by kernel_rfl) (by kernel_rfl) (by kernel_rfl) (fun _ _ _ h => h) (Or.inl ⟨by kernel_rfl, ?_⟩) (by assumption) ?_
            rotate_left
            · (intro wx hSw; (try dsimp only at hSw); obtain ⟨y0, y1, y2, y3⟩ := hSw; go_simp) <;> with_reducible rfl
            try simp only [Act.put, List.setIfInBounds_toArray, List.set_cons_zero, List.set_cons_succ]
            refine wpAnyH_take (i := 4) (v := ?_) (oi := { dst := some 55, op := Op.fieldAddr 67 (Operand.tmp 1) 0, type := _, pos := _, after := _, guard := none }) rfl (by kernel_rfl) (by kernel_rfl) (by kernel_rfl) (fun _ _ _ h => h) (Or.inl ⟨by kernel_rfl, ?_⟩) (by assumption) ?_
            rotate_left
            · (intro wx hSw; (try dsimp only at hSw); obtain ⟨y0, y1, y2, y3⟩ := hSw; go_simp) <;> with_reducible rfl
            try simp only [Act.put, List.setIfInBounds_toArray, List.set_cons_zero, List.set_cons_succ]
            refine wpAnyH_take (i := 5) (v := ?_) (oi := { dst := some 56, op := Op.load 25 (Operand.tmp 55), type := _, pos := _, after := _, guard := none }) rfl (by kernel_rfl) (by kernel_rfl) (by kernel_rfl) (fun _ _ _ h => h) (Or.inl ⟨by kernel_rfl, ?_⟩) (by assumption) ?_
            rotate_left
            · (intro wx hSw; (try dsimp only at hSw); obtain ⟨y0, y1, y2, y3⟩ := hSw; go_simp) <;> with_reducible rfl
            try simp only [Act.put, List.setIfInBounds_toArray, List.set_cons_zero, List.set_cons_succ]
            refine wpAnyH_take (i := 6) (v := ?_) (oi := { dst := some 57, op := Op.fieldAddr 71 (Operand.tmp 9) 0, type := _, pos := _, after := _, guard := none }) rfl (by kernel_rfl) (by kernel_rfl) (by kernel_rfl) (fun _ _ _ h => h) (Or.inl ⟨by kernel_rfl, ?_⟩) (by assumption) ?_
            rotate_left
            · (intro wx hSw; (try dsimp only at hSw); obtain ⟨y0, y1, y2, y3⟩ := hSw; go_simp) <;> with_reducible rfl
            try simp only [Act.put, List.setIfInBounds_toArray, List.set_cons_zero, List.set_cons_succ]
            refine wpAnyH_take (i := 7) (v := ?_) (oi := { dst := some 58, op := Op.load 3 (Operand.tmp 57), type := _, pos := _, after := _, guard := none }) rfl (by kernel_rfl) (by kernel_rfl) (by kernel_rfl) (fun _ _ _ h => h) (Or.inl ⟨by kernel_rfl, ?_⟩) (by assumption) ?_
            rotate_left
            · (intro wx hSw; (try dsimp only at hSw); obtain ⟨y0, y1, y2, y3⟩ := hSw; go_simp) <;> with_reducible rfl
            try simp only [Act.put, List.setIfInBounds_toArray, List.set_cons_zero, List.set_cons_succ]
            refine wpAnyH_take (i := 8) (v := ?_) (oi := { dst := some 59, op := Op.fieldAddr 71 (Operand.tmp 9) 0, type := _, pos := _, after := _, guard := none }) rfl (by kernel_rfl) (by kernel_rfl) (by kernel_rfl) (fun _ _ _ h => h) (Or.inl ⟨by kernel_rfl, ?_⟩) (by assumption) ?_
            rotate_left
            · (intro wx hSw; (try dsimp only at hSw); obtain ⟨y0, y1, y2, y3⟩ := hSw; go_simp) <;> with_reducible rfl
            try simp only [Act.put, List.setIfInBounds_toArray, List.set_cons_zero, List.set_cons_succ]
            refine wpAnyH_take (i := 9) (v := ?_) (oi := { dst := some 60, op := Op.load 3 (Operand.tmp 59), type := _, pos := _, after := _, guard := none }) rfl (by kernel_rfl) (by kernel_rfl) (by kernel_rfl) (fun _ _ _ h => h) (Or.inl ⟨by kernel_rfl, ?_⟩) (by assumption) ?_
            rotate_left
            · (intro wx hSw; (try dsimp only at hSw); obtain ⟨y0, y1, y2, y3⟩ := hSw; go_simp) <;> with_reducible rfl
            try simp only [Act.put, List.setIfInBounds_toArray, List.set_cons_zero, List.set_cons_succ]
            refine wpAnyH_take (i := 10) (v := ?_) (oi := { dst := some 61, op := Op.fieldAddr 71 (Operand.tmp 9) 2, type := _, pos := _, after := _, guard := none }) rfl (by kernel_rfl) (by kernel_rfl) (by kernel_rfl) (fun _ _ _ h => h) (Or.inl ⟨by kernel_rfl, ?_⟩) (by assumption) ?_
            rotate_left
            · (intro wx hSw; (try dsimp only at hSw); obtain ⟨y0, y1, y2, y3⟩ := hSw; go_simp) <;> with_reducible rfl
            try simp only [Act.put, List.setIfInBounds_toArray, List.set_cons_zero, List.set_cons_succ]
            refine wpAnyH_take (i := 11) (v := ?_) (oi := { dst := some 62, op := Op.load 3 (Operand.tmp 61), type := _, pos := _, after := _, guard := none }) rfl (by kernel_rfl) (by kernel_rfl) (by kernel_rfl) (fun _ _ _ h => h) (Or.inl ⟨by kernel_rfl, ?_⟩) (by assumption) ?_
            rotate_left
            · (intro wx hSw; (try dsimp only at hSw); obtain ⟨y0, y1, y2, y3⟩ := hSw; go_simp) <;> with_reducible rfl
            try simp only [Act.put, List.setIfInBounds_toArray, List.set_cons_zero, List.set_cons_succ]
            refine wpAnyH_take (i := 12) (v := ?_) (oi := { dst := some 63, op := Op.binOp BinOp.add 3 (Operand.tmp 60) (Operand.tmp 62) 3, type := _, pos := _, after := _, guard := none }) rfl (by kernel_rfl) (by kernel_rfl) (by kernel_rfl) (fun _ _ _ h => h) (Or.inl ⟨by kernel_rfl, ?_⟩) (by assumption) ?_
            rotate_left
            · (intro wx hSw; (try dsimp only at hSw); obtain ⟨y0, y1, y2, y3⟩ := hSw; go_simp) <;> with_reducible rfl
            try simp only [Act.put, List.setIfInBounds_toArray, List.set_cons_zero, List.set_cons_succ]
            refine wpAnyH_take (i := 13) (v := ?_) (oi := { dst := some 64, op := Op.slice 25 (Operand.tmp 56) (some (Operand.tmp 58)) (some (Operand.tmp 63)) none, type := _, pos := _, after := _, guard := none }) rfl (by kernel_rfl) (by kernel_rfl) (by kernel_rfl) (fun _ _ _ h => h) (Or.inl ⟨by kernel_rfl, ?_⟩) (by assumption) ?_
            rotate_left
            · (intro wx hSw; (try dsimp only at hSw); obtain ⟨y0, y1, y2, y3⟩ := hSw; go_simp) <;> with_reducible rfl
            try simp only [Act.put, List.setIfInBounds_toArray, List.set_cons_zero, List.set_cons_succ]
            refine wpAnyH_ready (rs := [14]) (by kernel_rfl) (by simp) ?_
            refine (AllReadyH.cons rfl (fun K hK => ?_) AllReadyH.nil)
            refine step_copyD rfl _ _ (by rfl) _ _ bm T _ _ g1 p _ _ zs2 (by rfl) (by rfl) ?hdp ?hsp ?hyl u2 ?hll hcc hcf ?_
            case hdp => rw [if_neg (by omega)]
            case hsp => rw [if_neg (by omega)]
            case hyl => omega
            case hll => omega
            refine hK.out _ _ ⟨e0, e1, e2, e3⟩ (fun hH9 => ?_)
            clear hK K hH9 hH
            try simp only [Act.put, List.setIfInBounds_toArray, List.set_cons_zero, List.set_cons_succ]
            refine wpAnyH_done (by kernel_rfl) ?_ _
            have O6' := OwnC.laid zs2 T w3.drew ys (HO9.out.chg (Chg.refl (fun _ => False) w3).drew fun _ _ _ h => h) (by have := HYL.out; omega)
            have O6 := hid O6'
            have V6 := hid (HV9.out.chgN CZ.out (fun gg h1 h2 => by subst h2; exact apartC (by decide) HO9.out HV9.out rfl h1))
            have RP6 := hid (CZ.out.heap RP9.out (show ¬ (bp = bm) from fun e => by subst e; exact apartTC HO9.out RP9.out (by decide) rfl))
            have R96 := hid (CZ.out.heap R9.out (show ¬ (wo.heap.size = bm) from fun e => by rw [e] at R9; exact apartTC HO9.out R9.out (by decide) rfl))
            have hbm := (HO9.out.own_lt (n := bm) rfl).1
            have G6 := hid (G9.out.trans CZ.out (fun j hj (e : j = bm) => by omega))
            clear O6' CZ d0 d1 d2 d3 e0 e1 e2 e3 u2 hcc hcf fb hcl hcl3 hgha hghb HO9 HV9 RP9 R9 R09 R19 SO9 SV9 SI9 G9
            generalize w3.drew.setCells bm T (zs2.map cx) = w6 at *
            obtain ⟨g4, cd, cure, hvd, hg40, hg41, hg4c, hgh4, l4, hl4, f0, f1, f2, f3⟩ := OwnL.lease V6.out HML.out hlm
            simp at hvd
            obtain ⟨rfl, rfl⟩ := hvd
            have fg4 := frees_at hgh4
            have k6 := cells_at RP6.out
            clear hl4 f1 f2 f3 hg41
            have n4p : ¬ (bp = g4) := fun e => by subst e; exact apartT V6.out RP6.out (by decide) rfl
            have n49 : ¬ (wo.heap.size = g4) := fun e => by have := HB4.out g4 rfl; omega
            go_upto_region 19 with fail
            have C7 := (Chg.refl (fun j => j = g4) w6).setCell (p := ⟨g4, id * 4, none⟩) (.inl rfl) (.int .i64 (T : Int))
            have RP7 := hid (C7.heap RP6.out n4p)
            have R97 := hid (C7.heap R96.out n49)
            have O7 := hid (O6.out.chgN C7 (fun j e1 e2 => by
              subst e2
              exact apartC (by decide) O6.out V6.out e1 rfl))
            have V7 := hid (OwnL.putSt V6.out id T l HMS.out)
            have G7 := hid (G6.out.trans C7 (fun j hj (h : j = g4) => by omega))
            clear f0 C7 k6 fg4 hgh4 RP6 R96 O6 V6 G6
            generalize w6.setCell ⟨g4, id * 4, none⟩ (.int .i64 (T : Int)) = w7 at *
            have k9 := cells_at R97.out
            go_wp2_with fail
            go_roundw
            case rel =>
              rw [HCT.out, HRM.out] at V7
              rw [HZS.out] at O7
              refine ⟨k + 1, by omega, by go_num, ?_, RP7, ?_, ?_, G7⟩
              · rw [HNX.out]
                show _ = Value.int .i64 ((T + r : Nat) : Int)
                congr 1
              · rw [HNX.out]
                exact O7
              · rw [HNX.out]
                exact V7
            case measure => simp [intOf]; omega
          · obtain rfl : L = k := by omega
            have hlt' : ¬ (L : Int) < (L : Int) := by omega
            have eT : ids.take L = ids := by rw [← HL.out]; exact List.take_length
            rw [eT] at HOr HVr
            have HC := Cp.all (xs := xs) (ls := ls) (by rw [HN.out]; exact HP.out) HPe.out ids.length (Nat.le_refl _)
            rw [List.take_length] at HC
            have eY := HC.ylen
            have eM := HC.mlen
            have HPE := hid HPe.out
            have GZ := hid (GWs.out.trans GR.out fun _ _ h => h)
            have hbm := (HOr.out.own_lt (n := bm) rfl).1
            clear HC eT R0r SOr SVr SIr HIS HOs HVs R0s R1s GWs hmf HPe
            rw [HN.out] at eY
            rw [HM.out] at eM
            have kP := cells_at RPr.out
            have kQ := cells_at R1r.out
            have fQ := frees_at R1r.out
            go_wp2_with fail
            have CR := chg_row2 wo (w.heap.size + 1) (.slice (some ⟨bm, 0, none⟩) n n) (.slice a4 m c4)
            refine bodyPost_ret (results_row1 (by rfl) _ _ _ (w.heap.size + 1) _ rfl (load_pool (heap_row2 R1r.out _ _) rfl)) rfl ⟨ids, HPE.out, some ⟨bm, 0, none⟩, n, a4, c4, ?_, ?_, ?_, ?_⟩
            · rw [eY, eM]
            · rw [eY]
              have o1 := HOr.out.chgN CR (fun j e1 (e2 : j = w.heap.size + 1) => by subst e2; exact apartTC HOr.out R1r.out (by decide) e1)
              exact o1.mono (by omega)
            · rw [eM]
              have o2 := OwnR.chgN HVr.out CR (fun j e1 (e2 : j = w.heap.size + 1) => by subst e2; exact apartT HVr.out R1r.out (by decide) e1)
              exact OwnR.mono o2 (by omega)
            · exact GZ.out.trans CR (fun j hj (e : j = w.heap.size + 1) => by omega)
end Go.Proofs.Ytopkehknaclhlaa
