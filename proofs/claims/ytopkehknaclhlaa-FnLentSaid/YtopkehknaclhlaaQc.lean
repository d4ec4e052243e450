/- The program cuts a lease that is lent. Conditions: the pool is valid. (Printed by gen_qb.py.) -/
import Derived.Test.YtopkehknaclhlaaQb
namespace Go.Proofs.Ytopkehknaclhlaa
open Go Go.RowKit

theorem chg_row4z (w : World) (b : Nat) (v0 v1 v2 v3 : Value) : Chg (fun j => j = b) w ((((w.setCell ⟨b, 0, none⟩ v0).setCell ⟨b, 1, none⟩ v1).setCell ⟨b, 2, none⟩ v2).setCell ⟨b, 3, none⟩ v3) := chg_row4 w b 0 v0 v1 v2 v3
theorem heap_row4z {w : World} {b : Nat} {T : TypeId} {f : Nat × Nat} {a0 a1 a2 a3 : Value} (h : w.heap[b]? = some (.cells #[a0, a1, a2, a3] T f)) (v0 v1 v2 v3 : Value) :
    ((((w.setCell ⟨b, 0, none⟩ v0).setCell ⟨b, 1, none⟩ v1).setCell ⟨b, 2, none⟩ v2).setCell ⟨b, 3, none⟩ v3).heap[b]? = some (.cells #[v0, v1, v2, v3] T f) := by
  have h := heap_set (k := 3) (v := v3) (heap_set (k := 2) (v := v2) (heap_set (k := 1) (v := v1) (heap_set (k := 0) (v := v0) h)))
  simpa using h
/-- Behind the copy of the pool and of the lease: two new variables. -/
structure CutMid (w2 wx : World) (bp bl : Nat) (a3 : Option Addr) (c3 : Nat) (a4 : Option Addr) (c4 p q r n m : Nat) (xs : List (Nat × Nat)) (ls : List Ls) : Prop where
  zbp : w2.heap.size ≤ bp
  zbl : w2.heap.size ≤ bl
  ne : bp ≠ bl
  RP : wx.heap[bp]? = some (.cells #[.slice a3 n c3, .slice a4 m c4] 67 (0, 0))
  RL : wx.heap[bl]? = some (.cells #[.int .i64 (p : Int), .int .i64 (q : Int), .int .i64 (r : Int), .bool false] 71 (0, 0))
  HO : OwnC wx w2.heap.size (.slice a3 n c3) xs
  HV : OwnL wx w2.heap.size (.slice a4 m c4) ls
  D4 : ∀ g, some g = (Value.slice a4 m c4).ownBlock → g ≠ bl
  G : Chg (fun _ => False) w2 wx

set_option maxRecDepth 100000 in
set_option maxHeartbeats 4000000 in
theorem CutLease_yes (w : World) (s v : Value) (xs : List (Nat × Nat)) (ls : List Ls) (id cut : Nat) (ho : OwnC w 0 s xs) (hv : OwnL w 0 v ls) (hp : POk xs.length ls) (hl : lentB ls id = true) (hc1 : 1 ≤ cut) (hc9 : cut ≤ 1000) :
    Calls Try.prog 77 #[.agg #[s, v], .int .i64 (id : Int), .int .i64 (cut : Int)] w (RPk w (cutP xs ls id cut)) := by
  obtain ⟨a, c, rfl⟩ := ho.form
  obtain ⟨a2, c2, rfl⟩ := hv.form
  have n256 := hp.nle
  have m16 := hp.len
  have A1 := ((Chg.refl (fun _ => False) w).alloc (.cells #[.slice a xs.length c, .slice a2 ls.length c2] 67)).alloc (.cells #[.slice none 0 0, .slice none 0 0] 67)
  have HO := hid (ho.chg A1 fun _ _ _ h => h)
  have HV := hid (hv.chg A1 fun _ _ _ h => h)
  have R0 := hid (show ((w.alloc (.cells #[.slice a xs.length c, .slice a2 ls.length c2] 67)).alloc (.cells #[.slice none 0 0, .slice none 0 0] 67)).heap[w.heap.size]? = _ from heap_old (heap_new w _))
  have R1 := hid (show ((w.alloc (.cells #[.slice a xs.length c, .slice a2 ls.length c2] 67)).alloc (.cells #[.slice none 0 0, .slice none 0 0] 67)).heap[w.heap.size + 1]? = _ from heap_new' (w := w.alloc _) (b := w.heap.size + 1) (by simp))
  have Z1 := hid (show ((w.alloc (.cells #[.slice a xs.length c, .slice a2 ls.length c2] 67)).alloc (.cells #[.slice none 0 0, .slice none 0 0] 67)).heap.size = w.heap.size + 2 by simp)
  have GA := hid A1
  have HP := hid hp
  have hIs := hid (fun w ho hv => IsPool_calls w (.slice a xs.length c) (.slice a2 ls.length c2) xs ls ho hv hp)
  have hLe := hid (fun w ho hv => isLent_calls w (.slice a xs.length c) (.slice a2 ls.length c2) xs ls id ho hv (by omega))
  have hCp := hid (fun w ho hv => copyPool_calls w (.slice a xs.length c) (.slice a2 ls.length c2) xs ls ho hv (by omega) (by omega))
  clear A1 ho hv hp
  generalize hn : xs.length = n at *
  generalize hm : ls.length = m at *
  have HN := hid hn
  have HM := hid hm
  clear hn hm
  rw [hl] at hLe
  obtain ⟨l, hlk, hlf, hid2⟩ := lentB_true hl
  rw [HM.out] at hid2
  have HLK := hid hlk
  have HLF := hid hlf
  have hok := HP.out.ok l (List.mem_of_getElem? hlk)
  rcases hok with ⟨h, _⟩ | ⟨_, h1, h2, h3⟩
  · rw [hlf] at h; cases h
  have i1 : (id : Int) < (m : Int) := by omega
  obtain ⟨g0, cc, cur, hv2, hg0, hg1, hgc, hgh, l', hlk', j0, j1, j2, j3⟩ := OwnL.lease HV.out HM.out hid2
  simp at hv2
  obtain ⟨rfl, rfl⟩ := hv2
  obtain rfl : l = l' := by rw [hlk] at hlk'; exact Option.some.inj hlk'
  rw [hlf] at j3
  have hpos : 1 ≤ l.rm := h1
  generalize hst : l.st = p at *
  generalize hct : l.ct = q at *
  generalize hrm : l.rm = r at *
  have HST := hid hst
  have HCT := hid hct
  have HRM := hid hrm
  have HGH := hid hgh
  clear hl hlk hlk' hlf hgh hst hct hrm
  have c1 : decide ((cut : Int) < 1) = false := by simp; omega
  have jd1 : ((w.alloc (.cells #[.slice a n c, .slice (some ⟨g0, 0, none⟩) m c2] 67)).alloc (.cells #[.slice none 0 0, .slice none 0 0] 67)).drew.cell? ⟨g0, id * 4 + 1, none⟩ = some (.int .i64 (q : Int)) := j1
  have jd2 : ((w.alloc (.cells #[.slice a n c, .slice (some ⟨g0, 0, none⟩) m c2] 67)).alloc (.cells #[.slice none 0 0, .slice none 0 0] 67)).drew.cell? ⟨g0, id * 4 + 2, none⟩ = some (.int .i64 (r : Int)) := j2
  have bd0 : ((w.alloc (.cells #[.slice a n c, .slice (some ⟨g0, 0, none⟩) m c2] 67)).alloc (.cells #[.slice none 0 0, .slice none 0 0] 67)).drew.cell? ⟨w.heap.size, 0, none⟩ = some (.slice a n c) := cell_at R0.out
  have bd1 : ((w.alloc (.cells #[.slice a n c, .slice (some ⟨g0, 0, none⟩) m c2] 67)).alloc (.cells #[.slice none 0 0, .slice none 0 0] 67)).drew.cell? ⟨w.heap.size, 1, none⟩ = some (.slice (some ⟨g0, 0, none⟩) m c2) := cell_at R0.out
  go_enter Try.func77, Try.ntmps77
  go_wp2_with fail
  go_region_held3 (fun wx => wx.cell? ⟨w.heap.size, 0, none⟩ = some (.slice a n c) ∧ wx.cell? ⟨w.heap.size, 1, none⟩ = some (.slice (some ⟨g0, 0, none⟩) m c2) ∧ wx.cell? ⟨g0, id * 4 + 1, none⟩ = some (.int .i64 (q : Int)) ∧ wx.cell? ⟨g0, id * 4 + 2, none⟩ = some (.int .i64 (r : Int))) (first | (refine ⟨?_, ?_, ?_, ?_⟩ <;> with_reducible assumption) | go_keep) (first | (go_at_call 106; refine (hIs.out _ (HO.out.chg (Chg.refl (fun _ => False) _).drew fun _ _ _ h => h) (HV.out.chg (Chg.refl (fun _ => False) _).drew fun _ _ _ h => h)).mono ?_; rintro e w1 ⟨rfl, hG⟩; have R0b := hid (hG.heap (((Chg.refl (fun _ => False) _).drew).heap R0.out (fun h => h)) (fun h => h)); have kR0b := cells_at R0b.out; have HO1 := hid ((HO.out.chg (Chg.refl (fun _ => False) _).drew fun _ _ _ h => h).chg hG fun _ _ _ h => h); have HV1 := hid ((HV.out.chg (Chg.refl (fun _ => False) _).drew fun _ _ _ h => h).chg hG fun _ _ _ h => h); have R1b := hid (hG.heap (((Chg.refl (fun _ => False) _).drew).heap R1.out (fun h => h)) (fun h => h)); have G1 := hid (GA.out.drew.trans hG fun _ _ h => h); have x0 : w1.cell? ⟨w.heap.size, 0, none⟩ = some (.slice a n c) := cell_at R0b.out; have x1 : w1.cell? ⟨w.heap.size, 1, none⟩ = some (.slice (some ⟨g0, 0, none⟩) m c2) := cell_at R0b.out; have x2 := hG.cell jd1 (fun h => h); have x3 := hG.cell jd2 (fun h => h)) | (go_at_call 107; refine (hLe.out _ HO1.out HV1.out).mono ?_; rintro e w2 ⟨rfl, hG2⟩; have R0c := hid (hG2.heap R0b.out (fun h => h)); have R1c := hid (hG2.heap R1b.out (fun h => h)); have HOc := hid (HO1.out.chg hG2 fun _ _ _ h => h); have HVc := hid (HV1.out.chg hG2 fun _ _ _ h => h); have GW := hid (G1.out.trans hG2 fun _ _ h => h); have z2 : w.heap.size + 2 ≤ w2.heap.size := (by have := Z1.out; have h1 := G1.out.size; have := hG2.size; have := hG.size; simp at *; omega); have y0 : w2.cell? ⟨w.heap.size, 0, none⟩ = some (.slice a n c) := cell_at R0c.out; have y1 : w2.cell? ⟨w.heap.size, 1, none⟩ = some (.slice (some ⟨g0, 0, none⟩) m c2) := cell_at R0c.out; have y2 := hG2.cell x2 (fun h => h); have y3 := hG2.cell x3 (fun h => h)))
  have hw0 : IntKind.i64.wrap ((r : Int) - 1) = (r : Int) - 1 := by
    rw [IntKind.wrap_i64]
    omega
  rw [hw0]
  clear hw0 x0 x1 x2 x3 j0 j1 j2 j3 jd1 jd2 bd0 bd1
  have kR0 := cells_at R0c.out
  have kR1 := cells_at R1c.out
  have fR1 := frees_at R1c.out
  by_cases hcut : cut ≤ q ∧ cut + 1 ≤ r
  · obtain ⟨k2, k3⟩ := hcut
    have HCP : Hid (cutP xs ls id cut = (putL (ls.set id (cutA l cut)) (cutB l cut)).map fun y => (xs, y.1, y.2)) := by
      unfold cutP
      rw [HLK.out]
      show (if l.fr = false ∧ 1 ≤ cut ∧ cut ≤ l.ct ∧ cut + 1 ≤ l.rm then (putL (ls.set id (cutA l cut)) (cutB l cut)).map (fun r => (xs, r.1, r.2)) else none) = _
      rw [if_pos ⟨HLF.out, hc1, by rw [HCT.out]; exact k2, by rw [HRM.out]; exact k3⟩]
    obtain ⟨mv, hmv⟩ : ∃ mv, mv = (if (r : Int) - 1 < (q : Int) then (r : Int) - 1 else (q : Int)) := ⟨_, rfl⟩
    rw [← hmv]
    have hd : decide (mv < (cut : Int)) = false := by
      simp
      rw [hmv]
      split <;> omega
    rw [hd]
    clear hd hmv
    have x0 : w2.cell? ⟨w.heap.size, 0, none⟩ = some (.slice a n c) := cell_at R0c.out
    have x1 : w2.cell? ⟨w.heap.size, 1, none⟩ = some (.slice (some ⟨g0, 0, none⟩) m c2) := cell_at R0c.out
    obtain ⟨g, cc, cur, hv2, hg0, hg1, hgc, hgh, l2, hlk, x2, x3, x4, x5⟩ := OwnL.lease HVc.out HM.out hid2
    simp at hv2
    obtain ⟨rfl, rfl⟩ := hv2
    obtain rfl : l = l2 := by rw [HLK.out] at hlk; exact Option.some.inj hlk
    rw [HST.out] at x2
    rw [HCT.out] at x3
    rw [HRM.out] at x4
    rw [HLF.out] at x5
    have hCp3 := hid (fun wx (G : Chg (fun _ => False) w2 wx) => (hCp.out wx (HOc.out.chg G fun _ _ _ h => h) (HVc.out.chg G fun _ _ _ h => h)).mono (fun e w' h => (⟨h, G.trans (by obtain ⟨_, _, _, _, _, _, _, h⟩ := h; exact h) (fun _ _ h => h)⟩ : RPl wx xs ls e w' ∧ Chg (fun _ => False) w2 w')))
    have lt0 := heap_lt R0c.out
    have lt2 := World.block_lt_of_cell? w2 _ x2
    have lt3 := heap_lt R1c.out
    have HR1c := R1c
    clear kR1 fR1 hgh hlk hG hG2 hg1 hgc y0 y1 y2 y3
    go_upto_region 3 with fail
    clear kR0
    simp only [] at lt2
    go_cut [9, 10] (fun r9 r10 wx => ∃ bp bl a3 c3 a4 c4, r9 = .pointer (some ⟨bp, 0, none⟩) ∧ r10 = .pointer (some ⟨bl, 0, none⟩) ∧ Hid (CutMid w2 wx bp bl a3 c3 a4 c4 p q r n m xs ls))
    case first =>
      refine wp_region_held_drew (S := fun wx => Chg (fun _ => False) w2 wx) (by kernel_rfl) ((Chg.refl _ w2).drew) (fun hH => ?_)
      have zd : w2.heap.size ≤ w2.drew.heap.size := Nat.le_refl _
      generalize w2.drew = wd at *
      refine wpAnyH_take (i := 0) (v := ?_) (oi := { dst := some 45, op := Op.load 67 (Operand.tmp 3), type := 67, pos := "l03_buffers.go:146", after := #[], guard := none }) rfl (by kernel_rfl) (by kernel_rfl) (by kernel_rfl) (fun _ _ _ h => h) (Or.inl ⟨by kernel_rfl, ?_⟩) (by assumption) ?_
      rotate_left
      · (intro wx hSw; (try dsimp only at hSw); have y0 := hSw.cell x0 (fun h => h); have y1 := hSw.cell x1 (fun h => h); go_simp) <;> with_reducible rfl
      try simp only [Act.put, List.setIfInBounds_toArray, List.set_cons_zero, List.set_cons_succ, List.getElem_toArray, List.getElem_cons_zero, List.getElem_cons_succ]
      refine wpAnyH_take (i := 2) (v := ?_) (oi := { dst := some 47, op := Op.fieldAddr 67 (Operand.tmp 3) 1, type := 0, pos := "l03_buffers.go:146", after := #[], guard := none }) rfl (by kernel_rfl) (by kernel_rfl) (by kernel_rfl) (fun _ _ _ h => h) (Or.inl ⟨by kernel_rfl, ?_⟩) (by assumption) ?_
      rotate_left
      · (intro wx hSw; (try dsimp only at hSw); go_simp) <;> with_reducible rfl
      try simp only [Act.put, List.setIfInBounds_toArray, List.set_cons_zero, List.set_cons_succ, List.getElem_toArray, List.getElem_cons_zero, List.getElem_cons_succ]
      refine wpAnyH_take (i := 4) (v := ?_) (oi := { dst := some 49, op := Op.move (Operand.tmp 1), type := 3, pos := "l03_buffers.go:146", after := #[], guard := none }) rfl (by kernel_rfl) (by kernel_rfl) (by kernel_rfl) (fun _ _ _ h => h) (Or.inl ⟨by kernel_rfl, ?_⟩) (by assumption) ?_
      rotate_left
      · (intro wx hSw; (try dsimp only at hSw); go_simp) <;> with_reducible rfl
      try simp only [Act.put, List.setIfInBounds_toArray, List.set_cons_zero, List.set_cons_succ, List.getElem_toArray, List.getElem_cons_zero, List.getElem_cons_succ]
      refine wpAnyH_take (i := 3) (v := ?_) (oi := { dst := some 48, op := Op.load 65 (Operand.tmp 47), type := 65, pos := "l03_buffers.go:146", after := #[{ on := 2, ground := Ground.data }], guard := none }) rfl (by kernel_rfl) (by kernel_rfl) (by kernel_rfl) (fun _ _ _ h => h) (Or.inl ⟨by kernel_rfl, ?_⟩) (by assumption) ?_
      rotate_left
      · (intro wx hSw; (try dsimp only at hSw); have y1 := hSw.cell x1 (fun h => h); go_simp) <;> with_reducible rfl
      try simp only [Act.put, List.setIfInBounds_toArray, List.set_cons_zero, List.set_cons_succ, List.getElem_toArray, List.getElem_cons_zero, List.getElem_cons_succ]
      refine wpAnyH_take (i := 5) (v := ?_) (oi := { dst := some 50, op := Op.indexAddr 65 (Operand.tmp 48) (Operand.tmp 49), type := 0, pos := "l03_buffers.go:146", after := #[{ on := 3, ground := Ground.data }, { on := 4, ground := Ground.data }], guard := none }) rfl (by kernel_rfl) (by kernel_rfl) (by kernel_rfl) (fun _ _ _ h => h) (Or.inl ⟨by kernel_rfl, ?_⟩) (by assumption) ?_
      rotate_left
      · (intro wx hSw; (try dsimp only at hSw); go_simp) <;> with_reducible rfl
      try simp only [Act.put, List.setIfInBounds_toArray, List.set_cons_zero, List.set_cons_succ, List.getElem_toArray, List.getElem_cons_zero, List.getElem_cons_succ]
      refine wpAnyH_take (i := 6) (v := ?_) (oi := { dst := some 51, op := Op.load 71 (Operand.tmp 50), type := 71, pos := "l03_buffers.go:146", after := #[{ on := 5, ground := Ground.data }], guard := none }) rfl (by kernel_rfl) (by kernel_rfl) (by kernel_rfl) (fun _ _ _ h => h) (Or.inl ⟨by kernel_rfl, ?_⟩) (by assumption) ?_
      rotate_left
      · (intro wx hSw; (try dsimp only at hSw); have y2 := hSw.cell x2 (fun h => h); have y3 := hSw.cell x3 (fun h => h); have y4 := hSw.cell x4 (fun h => h); have y5 := hSw.cell x5 (fun h => h); go_simp) <;> with_reducible rfl
      try simp only [Act.put, List.setIfInBounds_toArray, List.set_cons_zero, List.set_cons_succ, List.getElem_toArray, List.getElem_cons_zero, List.getElem_cons_succ]
      refine wpAnyH_ready (rs := [1, 7, 8]) (by kernel_rfl) (by simp) ?_
      refine (AllReadyH.cons rfl (fun K hK => ?_) (AllReadyH.cons rfl (fun K hK => ?_) (AllReadyH.cons rfl (fun K hK => ?_) AllReadyH.nil)))
      · go_simp
        refine (hCp3.out _ hH).mono ?_
        rintro e wdC ⟨⟨a3, c3, a4, c4, rfl, hO3, hV3, hG3⟩, G24⟩
        go_wp2_with fail
        refine hK.out _ _ G24 (fun hHC => ?_)
        clear hK K
        try simp only [Act.put, List.setIfInBounds_toArray, List.set_cons_zero, List.set_cons_succ, List.getElem_toArray, List.getElem_cons_zero, List.getElem_cons_succ]
        have zcwdC := hG3.size
        have zwwdC := G24.size
        rw [HN.out] at hO3
        rw [HM.out] at hV3
        have HB4 := hid (fun g (h : some g = (Value.slice a4 m c4).ownBlock) => hV3.own_lt h)
        have HO := hid (hO3.mono hH.size)
        have HV := hid (OwnR.mono hV3 hH.size)
        clear hO3 hV3 hG3 G24
        rw [HN.out, HM.out]
        refine wpAnyH_ready (rs := [7, 8]) (by kernel_rfl) (by simp) ?_
        refine (AllReadyH.cons rfl (fun K hK => ?_) (AllReadyH.cons rfl (fun K hK => ?_) AllReadyH.nil))
        · go_simp
          refine hK.out _ _ (hHC.alloc _) (fun hHCP => ?_)
          clear hK K
          try simp only [Act.put, List.setIfInBounds_toArray, List.set_cons_zero, List.set_cons_succ, List.getElem_toArray, List.getElem_cons_zero, List.getElem_cons_succ]
          have zwwdCP := hHC.size
          replace HO := hid (HO.out.chg ((Chg.refl (fun _ => False) wdC).alloc (.cells #[.slice none 0 0, .slice none 0 0] 67)) fun _ _ _ h => h)
          replace HV := hid (HV.out.chg ((Chg.refl (fun _ => False) wdC).alloc (.cells #[.slice none 0 0, .slice none 0 0] 67)) fun _ _ _ h => h)
          have RP := hid (heap_new wdC (.cells #[.slice none 0 0, .slice none 0 0] 67))
          have zwdCP : wdC.heap.size < (wdC.alloc (.cells #[.slice none 0 0, .slice none 0 0] 67)).heap.size := by simp
          generalize wdC.alloc (.cells #[.slice none 0 0, .slice none 0 0] 67) = wdCP at *
          generalize wdC.heap.size = bp at *
          refine wpAnyH_ready (rs := [8]) (by kernel_rfl) (by simp) ?_
          refine (AllReadyH.cons rfl (fun K hK => ?_) AllReadyH.nil)
          go_simp
          refine hK.out _ _ (hHCP.alloc _) (fun hHCPL => ?_)
          clear hK K
          try simp only [Act.put, List.setIfInBounds_toArray, List.set_cons_zero, List.set_cons_succ, List.getElem_toArray, List.getElem_cons_zero, List.getElem_cons_succ]
          have zwwdCPL := hHCP.size
          have lPwdCPL := heap_lt RP.out
          replace RP := hid (heap_old (o' := (.cells #[.int .i64 0, .int .i64 0, .int .i64 0, .bool false] 71)) RP.out)
          replace HO := hid (HO.out.chg ((Chg.refl (fun _ => False) wdCP).alloc (.cells #[.int .i64 0, .int .i64 0, .int .i64 0, .bool false] 71)) fun _ _ _ h => h)
          replace HV := hid (HV.out.chg ((Chg.refl (fun _ => False) wdCP).alloc (.cells #[.int .i64 0, .int .i64 0, .int .i64 0, .bool false] 71)) fun _ _ _ h => h)
          have RL := hid (heap_new wdCP (.cells #[.int .i64 0, .int .i64 0, .int .i64 0, .bool false] 71))
          have zwdCPL : wdCP.heap.size < (wdCP.alloc (.cells #[.int .i64 0, .int .i64 0, .int .i64 0, .bool false] 71)).heap.size := by simp
          generalize wdCP.alloc (.cells #[.int .i64 0, .int .i64 0, .int .i64 0, .bool false] 71) = wdCPL at *
          generalize wdCP.heap.size = bl at *
          refine wpAnyH_ready (rs := [9]) (by kernel_rfl) (by simp) ?_
          refine (AllReadyH.cons rfl (fun K hK => ?_) AllReadyH.nil)
          have kP := cells_at RP.out
          have fP := frees_at RP.out
          go_simp
          have zbp : w2.heap.size ≤ bp := by omega
          have zbl : w2.heap.size ≤ bl := by omega
          have nbl : bl ≠ bp := by omega
          have nbp : bp ≠ bl := by omega
          have D4 := hid (fun g (h : some g = (Value.slice a4 m c4).ownBlock) => show g ≠ bl by have := HB4.out g h; omega)
          refine hK.out _ _ ((hHCPL.setCell (p := ⟨bp, 0, none⟩) (.inr zbp) _).setCell (p := ⟨bp, 1, none⟩) (.inr zbp) _) (fun hH9 => ?_)
          clear hK K
          try simp only [Act.put, List.setIfInBounds_toArray, List.set_cons_zero, List.set_cons_succ, List.getElem_toArray, List.getElem_cons_zero, List.getElem_cons_succ]
          have CV := chg_row2 wdCPL bp (.slice a3 n c3) (.slice a4 m c4)
          replace HO := hid (HO.out.chgN CV (fun g e1 e2 => by subst e2; exact apartTC HO.out RP.out (by decide) e1))
          replace HV := hid (HV.out.chgN CV (fun g e1 e2 => by subst e2; exact apartT HV.out RP.out (by decide) e1))
          replace RL := hid (CV.heap RL.out nbl)
          replace RP := hid (heap_row2 RP.out (.slice a3 n c3) (.slice a4 m c4))
          clear CV kP fP
          generalize (wdCPL.setCell ⟨bp, 0, none⟩ (.slice a3 n c3)).setCell ⟨bp, 1, none⟩ (.slice a4 m c4) = W9 at *
          refine wpAnyH_ready (rs := [10]) (by kernel_rfl) (by simp) ?_
          refine (AllReadyH.cons rfl (fun K hK => ?_) AllReadyH.nil)
          have kL := cells_at RL.out
          have fL := frees_at RL.out
          go_simp
          refine hK.out _ _ ((((hH9.setCell (p := ⟨bl, 0, none⟩) (.inr zbl) _).setCell (p := ⟨bl, 1, none⟩) (.inr zbl) _).setCell (p := ⟨bl, 2, none⟩) (.inr zbl) _).setCell (p := ⟨bl, 3, none⟩) (.inr zbl) _) (fun hH10 => ?_)
          clear hK K
          try simp only [Act.put, List.setIfInBounds_toArray, List.set_cons_zero, List.set_cons_succ, List.getElem_toArray, List.getElem_cons_zero, List.getElem_cons_succ]
          have CW := chg_row4z W9 bl (.int .i64 (p : Int)) (.int .i64 (q : Int)) (.int .i64 (r : Int)) (.bool false)
          replace HO := hid (HO.out.chgN CW (fun g e1 e2 => by subst e2; exact apartTC HO.out RL.out (by decide) e1))
          replace HV := hid (HV.out.chgN CW (fun g e1 e2 => D4.out g e1 e2))
          replace RP := hid (CW.heap RP.out nbp)
          replace RL := hid (heap_row4z RL.out (.int .i64 (p : Int)) (.int .i64 (q : Int)) (.int .i64 (r : Int)) (.bool false))
          refine wpAnyH_done (by kernel_rfl) ?_ _
          go_wp2_with fail
          go_meet
          exact ⟨bp, bl, a3, c3, a4, c4, rfl, rfl, hid ⟨zbp, zbl, nbp, RP.out, RL.out, HO.out, HV.out, D4.out, hH10⟩⟩
        · go_simp
          refine hK.out _ _ (hHC.alloc _) (fun hHCL => ?_)
          clear hK K
          try simp only [Act.put, List.setIfInBounds_toArray, List.set_cons_zero, List.set_cons_succ, List.getElem_toArray, List.getElem_cons_zero, List.getElem_cons_succ]
          have zwwdCL := hHC.size
          replace HO := hid (HO.out.chg ((Chg.refl (fun _ => False) wdC).alloc (.cells #[.int .i64 0, .int .i64 0, .int .i64 0, .bool false] 71)) fun _ _ _ h => h)
          replace HV := hid (HV.out.chg ((Chg.refl (fun _ => False) wdC).alloc (.cells #[.int .i64 0, .int .i64 0, .int .i64 0, .bool false] 71)) fun _ _ _ h => h)
          have RL := hid (heap_new wdC (.cells #[.int .i64 0, .int .i64 0, .int .i64 0, .bool false] 71))
          have zwdCL : wdC.heap.size < (wdC.alloc (.cells #[.int .i64 0, .int .i64 0, .int .i64 0, .bool false] 71)).heap.size := by simp
          generalize wdC.alloc (.cells #[.int .i64 0, .int .i64 0, .int .i64 0, .bool false] 71) = wdCL at *
          generalize wdC.heap.size = bl at *
          refine wpAnyH_ready (rs := [7]) (by kernel_rfl) (by simp) ?_
          refine (AllReadyH.cons rfl (fun K hK => ?_) AllReadyH.nil)
          go_simp
          refine hK.out _ _ (hHCL.alloc _) (fun hHCLP => ?_)
          clear hK K
          try simp only [Act.put, List.setIfInBounds_toArray, List.set_cons_zero, List.set_cons_succ, List.getElem_toArray, List.getElem_cons_zero, List.getElem_cons_succ]
          have zwwdCLP := hHCL.size
          have lLwdCLP := heap_lt RL.out
          replace RL := hid (heap_old (o' := (.cells #[.slice none 0 0, .slice none 0 0] 67)) RL.out)
          replace HO := hid (HO.out.chg ((Chg.refl (fun _ => False) wdCL).alloc (.cells #[.slice none 0 0, .slice none 0 0] 67)) fun _ _ _ h => h)
          replace HV := hid (HV.out.chg ((Chg.refl (fun _ => False) wdCL).alloc (.cells #[.slice none 0 0, .slice none 0 0] 67)) fun _ _ _ h => h)
          have RP := hid (heap_new wdCL (.cells #[.slice none 0 0, .slice none 0 0] 67))
          have zwdCLP : wdCL.heap.size < (wdCL.alloc (.cells #[.slice none 0 0, .slice none 0 0] 67)).heap.size := by simp
          generalize wdCL.alloc (.cells #[.slice none 0 0, .slice none 0 0] 67) = wdCLP at *
          generalize wdCL.heap.size = bp at *
          refine wpAnyH_ready (rs := [9]) (by kernel_rfl) (by simp) ?_
          refine (AllReadyH.cons rfl (fun K hK => ?_) AllReadyH.nil)
          have kP := cells_at RP.out
          have fP := frees_at RP.out
          go_simp
          have zbp : w2.heap.size ≤ bp := by omega
          have zbl : w2.heap.size ≤ bl := by omega
          have nbl : bl ≠ bp := by omega
          have nbp : bp ≠ bl := by omega
          have D4 := hid (fun g (h : some g = (Value.slice a4 m c4).ownBlock) => show g ≠ bl by have := HB4.out g h; omega)
          refine hK.out _ _ ((hHCLP.setCell (p := ⟨bp, 0, none⟩) (.inr zbp) _).setCell (p := ⟨bp, 1, none⟩) (.inr zbp) _) (fun hH9 => ?_)
          clear hK K
          try simp only [Act.put, List.setIfInBounds_toArray, List.set_cons_zero, List.set_cons_succ, List.getElem_toArray, List.getElem_cons_zero, List.getElem_cons_succ]
          have CV := chg_row2 wdCLP bp (.slice a3 n c3) (.slice a4 m c4)
          replace HO := hid (HO.out.chgN CV (fun g e1 e2 => by subst e2; exact apartTC HO.out RP.out (by decide) e1))
          replace HV := hid (HV.out.chgN CV (fun g e1 e2 => by subst e2; exact apartT HV.out RP.out (by decide) e1))
          replace RL := hid (CV.heap RL.out nbl)
          replace RP := hid (heap_row2 RP.out (.slice a3 n c3) (.slice a4 m c4))
          clear CV kP fP
          generalize (wdCLP.setCell ⟨bp, 0, none⟩ (.slice a3 n c3)).setCell ⟨bp, 1, none⟩ (.slice a4 m c4) = W9 at *
          refine wpAnyH_ready (rs := [10]) (by kernel_rfl) (by simp) ?_
          refine (AllReadyH.cons rfl (fun K hK => ?_) AllReadyH.nil)
          have kL := cells_at RL.out
          have fL := frees_at RL.out
          go_simp
          refine hK.out _ _ ((((hH9.setCell (p := ⟨bl, 0, none⟩) (.inr zbl) _).setCell (p := ⟨bl, 1, none⟩) (.inr zbl) _).setCell (p := ⟨bl, 2, none⟩) (.inr zbl) _).setCell (p := ⟨bl, 3, none⟩) (.inr zbl) _) (fun hH10 => ?_)
          clear hK K
          try simp only [Act.put, List.setIfInBounds_toArray, List.set_cons_zero, List.set_cons_succ, List.getElem_toArray, List.getElem_cons_zero, List.getElem_cons_succ]
          have CW := chg_row4z W9 bl (.int .i64 (p : Int)) (.int .i64 (q : Int)) (.int .i64 (r : Int)) (.bool false)
          replace HO := hid (HO.out.chgN CW (fun g e1 e2 => by subst e2; exact apartTC HO.out RL.out (by decide) e1))
          replace HV := hid (HV.out.chgN CW (fun g e1 e2 => D4.out g e1 e2))
          replace RP := hid (CW.heap RP.out nbp)
          replace RL := hid (heap_row4z RL.out (.int .i64 (p : Int)) (.int .i64 (q : Int)) (.int .i64 (r : Int)) (.bool false))
          refine wpAnyH_done (by kernel_rfl) ?_ _
          go_wp2_with fail
          go_meet
          exact ⟨bp, bl, a3, c3, a4, c4, rfl, rfl, hid ⟨zbp, zbl, nbp, RP.out, RL.out, HO.out, HV.out, D4.out, hH10⟩⟩
      · go_simp
        refine hK.out _ _ (hH.alloc _) (fun hHP => ?_)
        clear hK K
        try simp only [Act.put, List.setIfInBounds_toArray, List.set_cons_zero, List.set_cons_succ, List.getElem_toArray, List.getElem_cons_zero, List.getElem_cons_succ]
        have zwwdP := hH.size
        have RP := hid (heap_new wd (.cells #[.slice none 0 0, .slice none 0 0] 67))
        have zwdP : wd.heap.size < (wd.alloc (.cells #[.slice none 0 0, .slice none 0 0] 67)).heap.size := by simp
        generalize wd.alloc (.cells #[.slice none 0 0, .slice none 0 0] 67) = wdP at *
        generalize wd.heap.size = bp at *
        refine wpAnyH_ready (rs := [1, 8]) (by kernel_rfl) (by simp) ?_
        refine (AllReadyH.cons rfl (fun K hK => ?_) (AllReadyH.cons rfl (fun K hK => ?_) AllReadyH.nil))
        · go_simp
          refine (hCp3.out _ hHP).mono ?_
          rintro e wdPC ⟨⟨a3, c3, a4, c4, rfl, hO3, hV3, hG3⟩, G24⟩
          go_wp2_with fail
          refine hK.out _ _ G24 (fun hHPC => ?_)
          clear hK K
          try simp only [Act.put, List.setIfInBounds_toArray, List.set_cons_zero, List.set_cons_succ, List.getElem_toArray, List.getElem_cons_zero, List.getElem_cons_succ]
          have zcwdPC := hG3.size
          have zwwdPC := G24.size
          rw [HN.out] at hO3
          rw [HM.out] at hV3
          have HB4 := hid (fun g (h : some g = (Value.slice a4 m c4).ownBlock) => hV3.own_lt h)
          have HO := hid (hO3.mono hHP.size)
          have HV := hid (OwnR.mono hV3 hHP.size)
          have lPwdPC := heap_lt RP.out
          replace RP := hid (hG3.heap RP.out (fun h => h))
          clear hO3 hV3 hG3 G24
          rw [HN.out, HM.out]
          refine wpAnyH_ready (rs := [8]) (by kernel_rfl) (by simp) ?_
          refine (AllReadyH.cons rfl (fun K hK => ?_) AllReadyH.nil)
          go_simp
          refine hK.out _ _ (hHPC.alloc _) (fun hHPCL => ?_)
          clear hK K
          try simp only [Act.put, List.setIfInBounds_toArray, List.set_cons_zero, List.set_cons_succ, List.getElem_toArray, List.getElem_cons_zero, List.getElem_cons_succ]
          have zwwdPCL := hHPC.size
          have lPwdPCL := heap_lt RP.out
          replace RP := hid (heap_old (o' := (.cells #[.int .i64 0, .int .i64 0, .int .i64 0, .bool false] 71)) RP.out)
          replace HO := hid (HO.out.chg ((Chg.refl (fun _ => False) wdPC).alloc (.cells #[.int .i64 0, .int .i64 0, .int .i64 0, .bool false] 71)) fun _ _ _ h => h)
          replace HV := hid (HV.out.chg ((Chg.refl (fun _ => False) wdPC).alloc (.cells #[.int .i64 0, .int .i64 0, .int .i64 0, .bool false] 71)) fun _ _ _ h => h)
          have RL := hid (heap_new wdPC (.cells #[.int .i64 0, .int .i64 0, .int .i64 0, .bool false] 71))
          have zwdPCL : wdPC.heap.size < (wdPC.alloc (.cells #[.int .i64 0, .int .i64 0, .int .i64 0, .bool false] 71)).heap.size := by simp
          generalize wdPC.alloc (.cells #[.int .i64 0, .int .i64 0, .int .i64 0, .bool false] 71) = wdPCL at *
          generalize wdPC.heap.size = bl at *
          refine wpAnyH_ready (rs := [9]) (by kernel_rfl) (by simp) ?_
          refine (AllReadyH.cons rfl (fun K hK => ?_) AllReadyH.nil)
          have kP := cells_at RP.out
          have fP := frees_at RP.out
          go_simp
          have zbp : w2.heap.size ≤ bp := by omega
          have zbl : w2.heap.size ≤ bl := by omega
          have nbl : bl ≠ bp := by omega
          have nbp : bp ≠ bl := by omega
          have D4 := hid (fun g (h : some g = (Value.slice a4 m c4).ownBlock) => show g ≠ bl by have := HB4.out g h; omega)
          refine hK.out _ _ ((hHPCL.setCell (p := ⟨bp, 0, none⟩) (.inr zbp) _).setCell (p := ⟨bp, 1, none⟩) (.inr zbp) _) (fun hH9 => ?_)
          clear hK K
          try simp only [Act.put, List.setIfInBounds_toArray, List.set_cons_zero, List.set_cons_succ, List.getElem_toArray, List.getElem_cons_zero, List.getElem_cons_succ]
          have CV := chg_row2 wdPCL bp (.slice a3 n c3) (.slice a4 m c4)
          replace HO := hid (HO.out.chgN CV (fun g e1 e2 => by subst e2; exact apartTC HO.out RP.out (by decide) e1))
          replace HV := hid (HV.out.chgN CV (fun g e1 e2 => by subst e2; exact apartT HV.out RP.out (by decide) e1))
          replace RL := hid (CV.heap RL.out nbl)
          replace RP := hid (heap_row2 RP.out (.slice a3 n c3) (.slice a4 m c4))
          clear CV kP fP
          generalize (wdPCL.setCell ⟨bp, 0, none⟩ (.slice a3 n c3)).setCell ⟨bp, 1, none⟩ (.slice a4 m c4) = W9 at *
          refine wpAnyH_ready (rs := [10]) (by kernel_rfl) (by simp) ?_
          refine (AllReadyH.cons rfl (fun K hK => ?_) AllReadyH.nil)
          have kL := cells_at RL.out
          have fL := frees_at RL.out
          go_simp
          refine hK.out _ _ ((((hH9.setCell (p := ⟨bl, 0, none⟩) (.inr zbl) _).setCell (p := ⟨bl, 1, none⟩) (.inr zbl) _).setCell (p := ⟨bl, 2, none⟩) (.inr zbl) _).setCell (p := ⟨bl, 3, none⟩) (.inr zbl) _) (fun hH10 => ?_)
          clear hK K
          try simp only [Act.put, List.setIfInBounds_toArray, List.set_cons_zero, List.set_cons_succ, List.getElem_toArray, List.getElem_cons_zero, List.getElem_cons_succ]
          have CW := chg_row4z W9 bl (.int .i64 (p : Int)) (.int .i64 (q : Int)) (.int .i64 (r : Int)) (.bool false)
          replace HO := hid (HO.out.chgN CW (fun g e1 e2 => by subst e2; exact apartTC HO.out RL.out (by decide) e1))
          replace HV := hid (HV.out.chgN CW (fun g e1 e2 => D4.out g e1 e2))
          replace RP := hid (CW.heap RP.out nbp)
          replace RL := hid (heap_row4z RL.out (.int .i64 (p : Int)) (.int .i64 (q : Int)) (.int .i64 (r : Int)) (.bool false))
          refine wpAnyH_done (by kernel_rfl) ?_ _
          go_wp2_with fail
          go_meet
          exact ⟨bp, bl, a3, c3, a4, c4, rfl, rfl, hid ⟨zbp, zbl, nbp, RP.out, RL.out, HO.out, HV.out, D4.out, hH10⟩⟩
        · go_simp
          refine hK.out _ _ (hHP.alloc _) (fun hHPL => ?_)
          clear hK K
          try simp only [Act.put, List.setIfInBounds_toArray, List.set_cons_zero, List.set_cons_succ, List.getElem_toArray, List.getElem_cons_zero, List.getElem_cons_succ]
          have zwwdPL := hHP.size
          have lPwdPL := heap_lt RP.out
          replace RP := hid (heap_old (o' := (.cells #[.int .i64 0, .int .i64 0, .int .i64 0, .bool false] 71)) RP.out)
          have RL := hid (heap_new wdP (.cells #[.int .i64 0, .int .i64 0, .int .i64 0, .bool false] 71))
          have zwdPL : wdP.heap.size < (wdP.alloc (.cells #[.int .i64 0, .int .i64 0, .int .i64 0, .bool false] 71)).heap.size := by simp
          generalize wdP.alloc (.cells #[.int .i64 0, .int .i64 0, .int .i64 0, .bool false] 71) = wdPL at *
          generalize wdP.heap.size = bl at *
          refine wpAnyH_ready (rs := [1]) (by kernel_rfl) (by simp) ?_
          refine (AllReadyH.cons rfl (fun K hK => ?_) AllReadyH.nil)
          go_simp
          refine (hCp3.out _ hHPL).mono ?_
          rintro e wdPLC ⟨⟨a3, c3, a4, c4, rfl, hO3, hV3, hG3⟩, G24⟩
          go_wp2_with fail
          refine hK.out _ _ G24 (fun hHPLC => ?_)
          clear hK K
          try simp only [Act.put, List.setIfInBounds_toArray, List.set_cons_zero, List.set_cons_succ, List.getElem_toArray, List.getElem_cons_zero, List.getElem_cons_succ]
          have zcwdPLC := hG3.size
          have zwwdPLC := G24.size
          rw [HN.out] at hO3
          rw [HM.out] at hV3
          have HB4 := hid (fun g (h : some g = (Value.slice a4 m c4).ownBlock) => hV3.own_lt h)
          have HO := hid (hO3.mono hHPL.size)
          have HV := hid (OwnR.mono hV3 hHPL.size)
          have lPwdPLC := heap_lt RP.out
          replace RP := hid (hG3.heap RP.out (fun h => h))
          have lLwdPLC := heap_lt RL.out
          replace RL := hid (hG3.heap RL.out (fun h => h))
          clear hO3 hV3 hG3 G24
          rw [HN.out, HM.out]
          refine wpAnyH_ready (rs := [9]) (by kernel_rfl) (by simp) ?_
          refine (AllReadyH.cons rfl (fun K hK => ?_) AllReadyH.nil)
          have kP := cells_at RP.out
          have fP := frees_at RP.out
          go_simp
          have zbp : w2.heap.size ≤ bp := by omega
          have zbl : w2.heap.size ≤ bl := by omega
          have nbl : bl ≠ bp := by omega
          have nbp : bp ≠ bl := by omega
          have D4 := hid (fun g (h : some g = (Value.slice a4 m c4).ownBlock) => show g ≠ bl by have := HB4.out g h; omega)
          refine hK.out _ _ ((hHPLC.setCell (p := ⟨bp, 0, none⟩) (.inr zbp) _).setCell (p := ⟨bp, 1, none⟩) (.inr zbp) _) (fun hH9 => ?_)
          clear hK K
          try simp only [Act.put, List.setIfInBounds_toArray, List.set_cons_zero, List.set_cons_succ, List.getElem_toArray, List.getElem_cons_zero, List.getElem_cons_succ]
          have CV := chg_row2 wdPLC bp (.slice a3 n c3) (.slice a4 m c4)
          replace HO := hid (HO.out.chgN CV (fun g e1 e2 => by subst e2; exact apartTC HO.out RP.out (by decide) e1))
          replace HV := hid (HV.out.chgN CV (fun g e1 e2 => by subst e2; exact apartT HV.out RP.out (by decide) e1))
          replace RL := hid (CV.heap RL.out nbl)
          replace RP := hid (heap_row2 RP.out (.slice a3 n c3) (.slice a4 m c4))
          clear CV kP fP
          generalize (wdPLC.setCell ⟨bp, 0, none⟩ (.slice a3 n c3)).setCell ⟨bp, 1, none⟩ (.slice a4 m c4) = W9 at *
          refine wpAnyH_ready (rs := [10]) (by kernel_rfl) (by simp) ?_
          refine (AllReadyH.cons rfl (fun K hK => ?_) AllReadyH.nil)
          have kL := cells_at RL.out
          have fL := frees_at RL.out
          go_simp
          refine hK.out _ _ ((((hH9.setCell (p := ⟨bl, 0, none⟩) (.inr zbl) _).setCell (p := ⟨bl, 1, none⟩) (.inr zbl) _).setCell (p := ⟨bl, 2, none⟩) (.inr zbl) _).setCell (p := ⟨bl, 3, none⟩) (.inr zbl) _) (fun hH10 => ?_)
          clear hK K
          try simp only [Act.put, List.setIfInBounds_toArray, List.set_cons_zero, List.set_cons_succ, List.getElem_toArray, List.getElem_cons_zero, List.getElem_cons_succ]
          have CW := chg_row4z W9 bl (.int .i64 (p : Int)) (.int .i64 (q : Int)) (.int .i64 (r : Int)) (.bool false)
          replace HO := hid (HO.out.chgN CW (fun g e1 e2 => by subst e2; exact apartTC HO.out RL.out (by decide) e1))
          replace HV := hid (HV.out.chgN CW (fun g e1 e2 => D4.out g e1 e2))
          replace RP := hid (CW.heap RP.out nbp)
          replace RL := hid (heap_row4z RL.out (.int .i64 (p : Int)) (.int .i64 (q : Int)) (.int .i64 (r : Int)) (.bool false))
          refine wpAnyH_done (by kernel_rfl) ?_ _
          go_wp2_with fail
          go_meet
          exact ⟨bp, bl, a3, c3, a4, c4, rfl, rfl, hid ⟨zbp, zbl, nbp, RP.out, RL.out, HO.out, HV.out, D4.out, hH10⟩⟩
      · go_simp
        refine hK.out _ _ (hH.alloc _) (fun hHL => ?_)
        clear hK K
        try simp only [Act.put, List.setIfInBounds_toArray, List.set_cons_zero, List.set_cons_succ, List.getElem_toArray, List.getElem_cons_zero, List.getElem_cons_succ]
        have zwwdL := hH.size
        have RL := hid (heap_new wd (.cells #[.int .i64 0, .int .i64 0, .int .i64 0, .bool false] 71))
        have zwdL : wd.heap.size < (wd.alloc (.cells #[.int .i64 0, .int .i64 0, .int .i64 0, .bool false] 71)).heap.size := by simp
        generalize wd.alloc (.cells #[.int .i64 0, .int .i64 0, .int .i64 0, .bool false] 71) = wdL at *
        generalize wd.heap.size = bl at *
        refine wpAnyH_ready (rs := [1, 7]) (by kernel_rfl) (by simp) ?_
        refine (AllReadyH.cons rfl (fun K hK => ?_) (AllReadyH.cons rfl (fun K hK => ?_) AllReadyH.nil))
        · go_simp
          refine (hCp3.out _ hHL).mono ?_
          rintro e wdLC ⟨⟨a3, c3, a4, c4, rfl, hO3, hV3, hG3⟩, G24⟩
          go_wp2_with fail
          refine hK.out _ _ G24 (fun hHLC => ?_)
          clear hK K
          try simp only [Act.put, List.setIfInBounds_toArray, List.set_cons_zero, List.set_cons_succ, List.getElem_toArray, List.getElem_cons_zero, List.getElem_cons_succ]
          have zcwdLC := hG3.size
          have zwwdLC := G24.size
          rw [HN.out] at hO3
          rw [HM.out] at hV3
          have HB4 := hid (fun g (h : some g = (Value.slice a4 m c4).ownBlock) => hV3.own_lt h)
          have HO := hid (hO3.mono hHL.size)
          have HV := hid (OwnR.mono hV3 hHL.size)
          have lLwdLC := heap_lt RL.out
          replace RL := hid (hG3.heap RL.out (fun h => h))
          clear hO3 hV3 hG3 G24
          rw [HN.out, HM.out]
          refine wpAnyH_ready (rs := [7]) (by kernel_rfl) (by simp) ?_
          refine (AllReadyH.cons rfl (fun K hK => ?_) AllReadyH.nil)
          go_simp
          refine hK.out _ _ (hHLC.alloc _) (fun hHLCP => ?_)
          clear hK K
          try simp only [Act.put, List.setIfInBounds_toArray, List.set_cons_zero, List.set_cons_succ, List.getElem_toArray, List.getElem_cons_zero, List.getElem_cons_succ]
          have zwwdLCP := hHLC.size
          have lLwdLCP := heap_lt RL.out
          replace RL := hid (heap_old (o' := (.cells #[.slice none 0 0, .slice none 0 0] 67)) RL.out)
          replace HO := hid (HO.out.chg ((Chg.refl (fun _ => False) wdLC).alloc (.cells #[.slice none 0 0, .slice none 0 0] 67)) fun _ _ _ h => h)
          replace HV := hid (HV.out.chg ((Chg.refl (fun _ => False) wdLC).alloc (.cells #[.slice none 0 0, .slice none 0 0] 67)) fun _ _ _ h => h)
          have RP := hid (heap_new wdLC (.cells #[.slice none 0 0, .slice none 0 0] 67))
          have zwdLCP : wdLC.heap.size < (wdLC.alloc (.cells #[.slice none 0 0, .slice none 0 0] 67)).heap.size := by simp
          generalize wdLC.alloc (.cells #[.slice none 0 0, .slice none 0 0] 67) = wdLCP at *
          generalize wdLC.heap.size = bp at *
          refine wpAnyH_ready (rs := [9]) (by kernel_rfl) (by simp) ?_
          refine (AllReadyH.cons rfl (fun K hK => ?_) AllReadyH.nil)
          have kP := cells_at RP.out
          have fP := frees_at RP.out
          go_simp
          have zbp : w2.heap.size ≤ bp := by omega
          have zbl : w2.heap.size ≤ bl := by omega
          have nbl : bl ≠ bp := by omega
          have nbp : bp ≠ bl := by omega
          have D4 := hid (fun g (h : some g = (Value.slice a4 m c4).ownBlock) => show g ≠ bl by have := HB4.out g h; omega)
          refine hK.out _ _ ((hHLCP.setCell (p := ⟨bp, 0, none⟩) (.inr zbp) _).setCell (p := ⟨bp, 1, none⟩) (.inr zbp) _) (fun hH9 => ?_)
          clear hK K
          try simp only [Act.put, List.setIfInBounds_toArray, List.set_cons_zero, List.set_cons_succ, List.getElem_toArray, List.getElem_cons_zero, List.getElem_cons_succ]
          have CV := chg_row2 wdLCP bp (.slice a3 n c3) (.slice a4 m c4)
          replace HO := hid (HO.out.chgN CV (fun g e1 e2 => by subst e2; exact apartTC HO.out RP.out (by decide) e1))
          replace HV := hid (HV.out.chgN CV (fun g e1 e2 => by subst e2; exact apartT HV.out RP.out (by decide) e1))
          replace RL := hid (CV.heap RL.out nbl)
          replace RP := hid (heap_row2 RP.out (.slice a3 n c3) (.slice a4 m c4))
          clear CV kP fP
          generalize (wdLCP.setCell ⟨bp, 0, none⟩ (.slice a3 n c3)).setCell ⟨bp, 1, none⟩ (.slice a4 m c4) = W9 at *
          refine wpAnyH_ready (rs := [10]) (by kernel_rfl) (by simp) ?_
          refine (AllReadyH.cons rfl (fun K hK => ?_) AllReadyH.nil)
          have kL := cells_at RL.out
          have fL := frees_at RL.out
          go_simp
          refine hK.out _ _ ((((hH9.setCell (p := ⟨bl, 0, none⟩) (.inr zbl) _).setCell (p := ⟨bl, 1, none⟩) (.inr zbl) _).setCell (p := ⟨bl, 2, none⟩) (.inr zbl) _).setCell (p := ⟨bl, 3, none⟩) (.inr zbl) _) (fun hH10 => ?_)
          clear hK K
          try simp only [Act.put, List.setIfInBounds_toArray, List.set_cons_zero, List.set_cons_succ, List.getElem_toArray, List.getElem_cons_zero, List.getElem_cons_succ]
          have CW := chg_row4z W9 bl (.int .i64 (p : Int)) (.int .i64 (q : Int)) (.int .i64 (r : Int)) (.bool false)
          replace HO := hid (HO.out.chgN CW (fun g e1 e2 => by subst e2; exact apartTC HO.out RL.out (by decide) e1))
          replace HV := hid (HV.out.chgN CW (fun g e1 e2 => D4.out g e1 e2))
          replace RP := hid (CW.heap RP.out nbp)
          replace RL := hid (heap_row4z RL.out (.int .i64 (p : Int)) (.int .i64 (q : Int)) (.int .i64 (r : Int)) (.bool false))
          refine wpAnyH_done (by kernel_rfl) ?_ _
          go_wp2_with fail
          go_meet
          exact ⟨bp, bl, a3, c3, a4, c4, rfl, rfl, hid ⟨zbp, zbl, nbp, RP.out, RL.out, HO.out, HV.out, D4.out, hH10⟩⟩
        · go_simp
          refine hK.out _ _ (hHL.alloc _) (fun hHLP => ?_)
          clear hK K
          try simp only [Act.put, List.setIfInBounds_toArray, List.set_cons_zero, List.set_cons_succ, List.getElem_toArray, List.getElem_cons_zero, List.getElem_cons_succ]
          have zwwdLP := hHL.size
          have lLwdLP := heap_lt RL.out
          replace RL := hid (heap_old (o' := (.cells #[.slice none 0 0, .slice none 0 0] 67)) RL.out)
          have RP := hid (heap_new wdL (.cells #[.slice none 0 0, .slice none 0 0] 67))
          have zwdLP : wdL.heap.size < (wdL.alloc (.cells #[.slice none 0 0, .slice none 0 0] 67)).heap.size := by simp
          generalize wdL.alloc (.cells #[.slice none 0 0, .slice none 0 0] 67) = wdLP at *
          generalize wdL.heap.size = bp at *
          refine wpAnyH_ready (rs := [1]) (by kernel_rfl) (by simp) ?_
          refine (AllReadyH.cons rfl (fun K hK => ?_) AllReadyH.nil)
          go_simp
          refine (hCp3.out _ hHLP).mono ?_
          rintro e wdLPC ⟨⟨a3, c3, a4, c4, rfl, hO3, hV3, hG3⟩, G24⟩
          go_wp2_with fail
          refine hK.out _ _ G24 (fun hHLPC => ?_)
          clear hK K
          try simp only [Act.put, List.setIfInBounds_toArray, List.set_cons_zero, List.set_cons_succ, List.getElem_toArray, List.getElem_cons_zero, List.getElem_cons_succ]
          have zcwdLPC := hG3.size
          have zwwdLPC := G24.size
          rw [HN.out] at hO3
          rw [HM.out] at hV3
          have HB4 := hid (fun g (h : some g = (Value.slice a4 m c4).ownBlock) => hV3.own_lt h)
          have HO := hid (hO3.mono hHLP.size)
          have HV := hid (OwnR.mono hV3 hHLP.size)
          have lLwdLPC := heap_lt RL.out
          replace RL := hid (hG3.heap RL.out (fun h => h))
          have lPwdLPC := heap_lt RP.out
          replace RP := hid (hG3.heap RP.out (fun h => h))
          clear hO3 hV3 hG3 G24
          rw [HN.out, HM.out]
          refine wpAnyH_ready (rs := [9]) (by kernel_rfl) (by simp) ?_
          refine (AllReadyH.cons rfl (fun K hK => ?_) AllReadyH.nil)
          have kP := cells_at RP.out
          have fP := frees_at RP.out
          go_simp
          have zbp : w2.heap.size ≤ bp := by omega
          have zbl : w2.heap.size ≤ bl := by omega
          have nbl : bl ≠ bp := by omega
          have nbp : bp ≠ bl := by omega
          have D4 := hid (fun g (h : some g = (Value.slice a4 m c4).ownBlock) => show g ≠ bl by have := HB4.out g h; omega)
          refine hK.out _ _ ((hHLPC.setCell (p := ⟨bp, 0, none⟩) (.inr zbp) _).setCell (p := ⟨bp, 1, none⟩) (.inr zbp) _) (fun hH9 => ?_)
          clear hK K
          try simp only [Act.put, List.setIfInBounds_toArray, List.set_cons_zero, List.set_cons_succ, List.getElem_toArray, List.getElem_cons_zero, List.getElem_cons_succ]
          have CV := chg_row2 wdLPC bp (.slice a3 n c3) (.slice a4 m c4)
          replace HO := hid (HO.out.chgN CV (fun g e1 e2 => by subst e2; exact apartTC HO.out RP.out (by decide) e1))
          replace HV := hid (HV.out.chgN CV (fun g e1 e2 => by subst e2; exact apartT HV.out RP.out (by decide) e1))
          replace RL := hid (CV.heap RL.out nbl)
          replace RP := hid (heap_row2 RP.out (.slice a3 n c3) (.slice a4 m c4))
          clear CV kP fP
          generalize (wdLPC.setCell ⟨bp, 0, none⟩ (.slice a3 n c3)).setCell ⟨bp, 1, none⟩ (.slice a4 m c4) = W9 at *
          refine wpAnyH_ready (rs := [10]) (by kernel_rfl) (by simp) ?_
          refine (AllReadyH.cons rfl (fun K hK => ?_) AllReadyH.nil)
          have kL := cells_at RL.out
          have fL := frees_at RL.out
          go_simp
          refine hK.out _ _ ((((hH9.setCell (p := ⟨bl, 0, none⟩) (.inr zbl) _).setCell (p := ⟨bl, 1, none⟩) (.inr zbl) _).setCell (p := ⟨bl, 2, none⟩) (.inr zbl) _).setCell (p := ⟨bl, 3, none⟩) (.inr zbl) _) (fun hH10 => ?_)
          clear hK K
          try simp only [Act.put, List.setIfInBounds_toArray, List.set_cons_zero, List.set_cons_succ, List.getElem_toArray, List.getElem_cons_zero, List.getElem_cons_succ]
          have CW := chg_row4z W9 bl (.int .i64 (p : Int)) (.int .i64 (q : Int)) (.int .i64 (r : Int)) (.bool false)
          replace HO := hid (HO.out.chgN CW (fun g e1 e2 => by subst e2; exact apartTC HO.out RL.out (by decide) e1))
          replace HV := hid (HV.out.chgN CW (fun g e1 e2 => D4.out g e1 e2))
          replace RP := hid (CW.heap RP.out nbp)
          replace RL := hid (heap_row4z RL.out (.int .i64 (p : Int)) (.int .i64 (q : Int)) (.int .i64 (r : Int)) (.bool false))
          refine wpAnyH_done (by kernel_rfl) ?_ _
          go_wp2_with fail
          go_meet
          exact ⟨bp, bl, a3, c3, a4, c4, rfl, rfl, hid ⟨zbp, zbl, nbp, RP.out, RL.out, HO.out, HV.out, D4.out, hH10⟩⟩
    case rest =>
      obtain ⟨bp, bl, a3, c3, a4, c4, rfl, rfl, HC⟩ := hcut
      have HO4 := hid HC.out.HO
      have HV4 := hid HC.out.HV
      have R5f := hid HC.out.RP
      have R9f := hid HC.out.RL
      have GW4 := hid (GW.out.trans HC.out.G fun _ _ h => h)
      have R1f := hid (HC.out.G.heap R1c.out (fun h => h))
      have zbp := HC.out.zbp
      have zbl := HC.out.zbl
      have nbp := HC.out.ne
      have D4 := hid HC.out.D4
      have zc5 := HC.out.G.size
      have lbp := heap_lt HC.out.RP
      have HB3 := hid (fun g (h : some g = (Value.slice a3 n c3).ownBlock) => HC.out.HO.own_lt h)
      have HB4 := hid (fun g (h : some g = (Value.slice a4 m c4).ownBlock) => HC.out.HV.own_lt h)
      clear HC x0 x1 x2 x3 x4 x5 lt2
      obtain ⟨g, cc, cur, hv2, hg0, hg1, hgc, hgh, l2, hlk, j0, j1, j2, j3⟩ := OwnL.lease HV4.out HM.out hid2
      simp at hv2
      obtain ⟨rfl, rfl⟩ := hv2
      have fg := frees_at hgh
      have kR5 := cells_at R5f.out
      have kR9 := cells_at R9f.out
      have n6 : g ≠ bl := D4.out g rfl
      have n7 : g ≠ bp := fun e => by subst e; exact apartT HV4.out R5f.out (by decide) rfl
      have n2 : g ≠ w.heap.size + 1 := by omega
      clear hlk hgh
      go_upto_region 5 with fail
      have C4 := chg_row4 wc g (id * 4) (.int .i64 (p : Int)) (.int .i64 (cut : Int)) (.int .i64 (cut : Int)) (.bool false)
      have Q1 := hid (C4.heap R1f.out (by omega))
      have Q5 := hid (C4.heap R5f.out (by omega))
      have Q9 := hid (C4.heap R9f.out (by omega))
      have O7 := hid (HO4.out.chgN C4 (fun j e1 e2 => by
        subst e2
        exact apartC (by decide) HO4.out HV4.out e1 rfl))
      have V7 : Hid (OwnL ((((wc.setCell ⟨g, id * 4, none⟩ (.int .i64 (p : Int))).setCell ⟨g, id * 4 + 1, none⟩ (.int .i64 (cut : Int))).setCell ⟨g, id * 4 + 2, none⟩ (.int .i64 (cut : Int))).setCell ⟨g, id * 4 + 3, none⟩ (.bool false)) w2.heap.size (.slice (some ⟨g, 0, none⟩) m c4) (ls.set id (cutA l cut))) := by
        have h := OwnL.put HV4.out id (cutA l cut) (by rw [HM.out]; exact hid2)
        rw [show (cutA l cut).st = p from HST.out] at h
        exact h
      have G7 := hid (GW4.out.trans C4 (fun j hj (h : j = g) => by omega))
      have z7 := C4.size
      clear C4 kR5 kR9 fg j0 j1 j2 j3 HV4 HO4 GW4 R5f R9f R1f
      generalize (((wc.setCell ⟨g, id * 4, none⟩ (.int .i64 (p : Int))).setCell ⟨g, id * 4 + 1, none⟩ (.int .i64 (cut : Int))).setCell ⟨g, id * 4 + 2, none⟩ (.int .i64 (cut : Int))).setCell ⟨g, id * 4 + 3, none⟩ (.bool false) = w7 at *
      have kQ5 := cells_at Q5.out
      have kQ9 := cells_at Q9.out
      have hup := fun q1 q2 q3 e1 e2 e3 => lend_up w7 w2.heap.size bp (.slice a3 n c3) (.slice (some ⟨g, 0, none⟩) m c4) (ls.set id (cutA l cut)) (cutB l cut) q1 q2 q3 V7.out Q5.out (by omega) (by rw [List.length_set, HM.out]; exact m16) e1 e2 e3 rfl
      go_wp2_with fail
      refine (hup _ _ _ (by show (p : Int) + (cut : Int) = ((l.st + cut : Nat) : Int); rw [HST.out]; omega) (by show (q : Int) - (cut : Int) = ((l.ct - cut : Nat) : Int); rw [HCT.out]; omega) (by show (r : Int) - (cut : Int) = ((l.rm - cut : Nat) : Int); rw [HRM.out]; omega)).mono ?_
      rintro e w8 ⟨hG8, a5, c5, rfl, hV8, hB8⟩
      have HLP : Hid (cutP xs ls id cut = if (putO (ls.set id (cutA l cut)) (cutB l cut)).1.length ≤ 16 then some (xs, (putO (ls.set id (cutA l cut)) (cutB l cut)).1, (putO (ls.set id (cutA l cut)) (cutB l cut)).2) else none) := by
        show cutP xs ls id cut = _
        rw [HCP.out, putL_putO _ (by rw [List.length_set, HM.out]; exact m16)]
        split <;> rfl
      clear hup
      generalize putO (ls.set id (cutA l cut)) (cutB l cut) = y at *
      have z8 := hG8.size
      have S1 := hid (hG8.heap Q1.out (fun e => by rcases e with ⟨h, _⟩ | h <;> omega))
      have kS1 := cells_at S1.out
      have fS1 := frees_at S1.out
      have O8 := hid (O7.out.chgN hG8 (fun j e1 e2 => by
        rcases e2 with ⟨_, cs, f, h⟩ | h
        · exact apartTC O7.out h (by decide) e1
        · subst h; exact apartTC O7.out Q5.out (by decide) e1))
      have G8 := hid (G7.out.trans hG8 (fun j hj e => by rcases e with ⟨h, _⟩ | h <;> omega))
      have V8 := hid hV8
      have B8 := hid hB8
      have kB8 := cells_at B8.out
      clear hG8 hV8 hB8 V7 O7 Q1 Q5 Q9 kQ5 kQ9 G7
      by_cases h16 : y.1.length ≤ 16
      · have d16 : decide (y.1.length ≤ 16) = true := by simpa using h16
        have HLP2 := hid (HLP.out.trans (if_pos h16))
        rw [d16]
        clear h16 d16 HLP
        go_wp2_with fail
        refine bodyPost_ret (row_cell_tmp2 (by rfl) _ _ _ (w.heap.size + 1) _ (.int .i64 (y.2 : Int)) (.bool true) rfl (load_pool (heap_row2 S1.out _ _) rfl) rfl rfl) rfl ⟨?_, ?_⟩
        · exact G8.out.trans (chg_row2 _ (w.heap.size + 1) (.slice a3 n c3) (.slice a5 y.1.length c5)) (fun j hj (h : j = w.heap.size + 1) => by omega)
        · rw [HLP2.out]
          have CR := chg_row2 w8 (w.heap.size + 1) (.slice a3 n c3) (.slice a5 y.1.length c5)
          have o1 := O8.out.chgN CR (fun j e1 (e2 : j = w.heap.size + 1) => by have := (HB3.out _ e1).1; omega)
          have o2 := OwnR.chgN V8.out CR (fun j e1 (e2 : j = w.heap.size + 1) => by subst e2; exact apartT V8.out S1.out (by decide) e1)
          exact ⟨a3, c3, a5, c5, by simp [HN.out], by simpa [HN.out] using o1.mono (by omega), OwnR.mono o2 (by omega)⟩
      · have d16 : decide (y.1.length ≤ 16) = false := by simpa using h16
        have HLP2 := hid (HLP.out.trans (if_neg h16))
        rw [d16]
        clear h16 d16 HLP
        go_wp2_with fail
        refine bodyPost_ret (row_cell_tmp2 (by rfl) _ _ _ (w.heap.size + 1) _ (.int .i64 0) (.bool false) rfl (load_pool (heap_row2 S1.out _ _) rfl) rfl rfl) rfl ⟨?_, ?_⟩
        · exact G8.out.trans (chg_row2 _ (w.heap.size + 1) (.slice none 0 0) (.slice none 0 0)) (fun j hj (h : j = w.heap.size + 1) => by omega)
        · rw [HLP2.out]
  · have HCP : Hid (cutP xs ls id cut = none) := by
      unfold cutP
      rw [HLK.out]
      show (if l.fr = false ∧ 1 ≤ cut ∧ cut ≤ l.ct ∧ cut + 1 ≤ l.rm then (putL (ls.set id (cutA l cut)) (cutB l cut)).map (fun r => (xs, r.1, r.2)) else none) = none
      rw [if_neg (by rw [HCT.out, HRM.out]; rintro ⟨_, _, h2, h3⟩; exact hcut ⟨h2, h3⟩)]
    obtain ⟨mv, hmv⟩ : ∃ mv, mv = (if (r : Int) - 1 < (q : Int) then (r : Int) - 1 else (q : Int)) := ⟨_, rfl⟩
    rw [← hmv]
    have hd : decide (mv < (cut : Int)) = true := by
      simp
      rw [hmv]
      split <;> omega
    rw [hd]
    clear hd hmv
    go_wp2_with fail
    refine bodyPost_ret (row_cell_tmp2 (by rfl) _ _ _ (w.heap.size + 1) _ (.int .i64 0) (.bool false) rfl (load_pool (heap_row2 R1c.out _ _) rfl) rfl rfl) rfl ⟨?_, ?_⟩
    · exact GW.out.trans (chg_row2 _ (w.heap.size + 1) (.slice none 0 0) (.slice none 0 0)) (fun j hj (h : j = w.heap.size + 1) => by omega)
    · rw [HCP.out]

theorem cutP_none {xs : List (Nat × Nat)} {ls : List Ls} {id cut : Nat} (hl : lentB ls id = false) : cutP xs ls id cut = none := by
  unfold cutP
  unfold lentB at hl
  cases hq : ls[id]? with
  | none => rfl
  | some l =>
    rw [hq] at hl
    simp at hl
    simp [hl]
theorem CutLease_calls (w : World) (s v : Value) (xs : List (Nat × Nat)) (ls : List Ls) (id cut : Nat) (ho : OwnC w 0 s xs) (hv : OwnL w 0 v ls) (hp : POk xs.length ls) (hc1 : 1 ≤ cut) (hc9 : cut ≤ 1000) :
    Calls Try.prog 77 #[.agg #[s, v], .int .i64 (id : Int), .int .i64 (cut : Int)] w (RPk w (cutP xs ls id cut)) := by
  cases hl : lentB ls id
  · rw [cutP_none hl]
    exact CutLease_no w s v xs ls id cut ho hv hp hl
  · exact CutLease_yes w s v xs ls id cut ho hv hp hl hc1 hc9
end Go.Proofs.Ytopkehknaclhlaa
