/- The reference appends to a lease that is lent. Conditions: the pool is valid. (Printed by gen_pl.py.) -/
import Derived.Test.YtopkehknaclhlaaNf
namespace Go.Proofs.Ytopkehknaclhlaa
open Go Go.RowKit

theorem flat_setCt (c' : Nat) : ∀ (ls : List Ls) (i : Nat) (l : Ls), ls[i]? = some l → (ls.set i ⟨l.st, c', l.rm, l.fr⟩).flatMap encL.cells = (ls.flatMap encL.cells).set (i * 4 + 1) (.int .i64 (c' : Int))
  | [], i, l, h => by simp at h
  | x :: ls, 0, l, h => by
    simp at h
    subst h
    rfl
  | x :: ls, i + 1, l, h => by
    rw [List.set_cons_succ, List.flatMap_cons, List.flatMap_cons, flat_setCt c' ls i l (by simpa using h)]
    rw [show (i + 1) * 4 + 1 = i * 4 + 1 + 4 by omega]
    rfl
theorem OwnL.putCt {w : World} {base g n c : Nat} {ls : List Ls} (h : OwnL w base (.slice (some ⟨g, 0, none⟩) n c) ls) (i c' : Nat) (l : Ls) (hl : ls[i]? = some l) :
    OwnL (w.setCell ⟨g, i * 4 + 1, none⟩ (.int .i64 (c' : Int))) base (.slice (some ⟨g, 0, none⟩) n c) (ls.set i ⟨l.st, c', l.rm, l.fr⟩) := by
  obtain ⟨h1, h2⟩ := h
  rcases h2 with ⟨h2, _⟩ | ⟨g', cap, cur, hv, hg, hh, hc, hm, hs, ht⟩
  · simp at h2
  · simp at hv
    obtain ⟨rfl, rfl, rfl⟩ := hv
    refine ⟨by rw [flat_len], .inr ⟨g, c, cur.setIfInBounds (i * 4 + 1) (.int .i64 (c' : Int)), by rw [List.length_set], hg, heap_set hh, by rw [List.length_set]; exact hc, hm, by simpa using hs, ?_⟩⟩
    rw [flat_setCt c' ls i l hl, List.length_set]
    simp only [Array.toList_setIfInBounds, List.take_set]
    rw [ht]

set_option maxRecDepth 100000 in
set_option maxHeartbeats 4000000 in
theorem AppendToS_yes (w : World) (s v u : Value) (xs ys : List (Nat × Nat)) (ls : List Ls) (id : Nat) (ho : OwnC w 0 s xs) (hv : OwnL w 0 v ls) (hu : OwnC w 0 u ys) (hp : POk xs.length ls) (hl : lentB ls id = true) (hy9 : ys.length ≤ 1000) :
    Calls Try.prog 58 #[.agg #[s, v], .int .i64 (id : Int), u] w (RPb w (appP xs ls id ys)) := by
  obtain ⟨a, c, rfl⟩ := ho.form
  obtain ⟨a2, c2, rfl⟩ := hv.form
  obtain ⟨ua, uc, rfl⟩ := hu.form
  have n256 := hp.nle
  have m16 := hp.len
  have A1 := ((Chg.refl (fun _ => False) w).alloc (.cells #[.slice a xs.length c, .slice a2 ls.length c2] 67)).alloc (.cells #[.slice none 0 0, .slice none 0 0] 67)
  have HO := hid (ho.chg A1 fun _ _ _ h => h)
  have HV := hid (hv.chg A1 fun _ _ _ h => h)
  have R0 := hid (show ((w.alloc (.cells #[.slice a xs.length c, .slice a2 ls.length c2] 67)).alloc (.cells #[.slice none 0 0, .slice none 0 0] 67)).heap[w.heap.size]? = _ from heap_old (heap_new w _))
  have R1 := hid (show ((w.alloc (.cells #[.slice a xs.length c, .slice a2 ls.length c2] 67)).alloc (.cells #[.slice none 0 0, .slice none 0 0] 67)).heap[w.heap.size + 1]? = _ from heap_new' (w := w.alloc _) (b := w.heap.size + 1) (by simp))
  have Z1 := hid (show ((w.alloc (.cells #[.slice a xs.length c, .slice a2 ls.length c2] 67)).alloc (.cells #[.slice none 0 0, .slice none 0 0] 67)).heap.size = w.heap.size + 2 by simp)
  have GA := hid A1
  have HP := hid hp
  have hLe := hid (fun w ho hv => l3Lent_calls w (.slice a xs.length c) (.slice a2 ls.length c2) xs ls id ho hv hp)
  have hCp := hid (fun w ho hv => l3Copy_calls w (.slice a xs.length c) (.slice a2 ls.length c2) xs ls ho hv (by omega) (by omega))
  have HU := hid (hu.chg A1 fun _ _ _ h => h)
  clear A1 ho hv hp hu
  generalize hn : xs.length = n at *
  generalize hm : ls.length = m at *
  generalize hy : ys.length = ny at *
  have HN := hid hn
  have HM := hid hm
  have HY := hid hy
  clear hn hm hy
  rw [hl] at hLe
  obtain ⟨l, hlk, hlf, hid2⟩ := lentB_true hl
  rw [HM.out] at hid2
  have HLK := hid hlk
  have HLF := hid hlf
  have hok := HP.out.ok l (List.mem_of_getElem? hlk)
  rcases hok with ⟨h, _⟩ | ⟨_, h1, h2, h3⟩
  · rw [hlf] at h; cases h
  have i1 : (id : Int) < (m : Int) := by omega
  obtain ⟨g0, cc, cur, hv2, hg0, hg1, hgc, hgh, l', hlk', j0, j1, j2, j3⟩ := OwnL.lease HV.out HM.out hid2
  simp at hv2
  obtain ⟨rfl, rfl⟩ := hv2
  obtain rfl : l = l' := by rw [hlk] at hlk'; exact Option.some.inj hlk'
  rw [hlf] at j3
  generalize hst : l.st = p at *
  generalize hct : l.ct = q at *
  generalize hrm : l.rm = r at *
  have HST := hid hst
  have HCT := hid hct
  have HRM := hid hrm
  have HAP : Hid (appP xs ls id ys = if q + ny ≤ r then some (laid xs (p + q) ys, ls.set id ⟨p, q + ny, r, false⟩) else none) := by
    unfold appP
    rw [HLK.out]
    show (if l.fr = false ∧ l.ct + ys.length ≤ l.rm then some (laid xs (l.st + l.ct) ys, ls.set id ⟨l.st, l.ct + ys.length, l.rm, false⟩) else none) = _
    rw [HST.out, HCT.out, HRM.out, HY.out, HLF.out]
    simp
  have HGH := hid hgh
  clear hl hlk hlk' hlf hgh hst hct hrm
  have jd1 : ((w.alloc (.cells #[.slice a n c, .slice (some ⟨g0, 0, none⟩) m c2] 67)).alloc (.cells #[.slice none 0 0, .slice none 0 0] 67)).drew.cell? ⟨g0, id * 4 + 1, none⟩ = some (.int .i64 (q : Int)) := j1
  have jd2 : ((w.alloc (.cells #[.slice a n c, .slice (some ⟨g0, 0, none⟩) m c2] 67)).alloc (.cells #[.slice none 0 0, .slice none 0 0] 67)).drew.cell? ⟨g0, id * 4 + 2, none⟩ = some (.int .i64 (r : Int)) := j2
  have bd0 : ((w.alloc (.cells #[.slice a n c, .slice (some ⟨g0, 0, none⟩) m c2] 67)).alloc (.cells #[.slice none 0 0, .slice none 0 0] 67)).drew.cell? ⟨w.heap.size, 0, none⟩ = some (.slice a n c) := cell_at R0.out
  have bd1 : ((w.alloc (.cells #[.slice a n c, .slice (some ⟨g0, 0, none⟩) m c2] 67)).alloc (.cells #[.slice none 0 0, .slice none 0 0] 67)).drew.cell? ⟨w.heap.size, 1, none⟩ = some (.slice (some ⟨g0, 0, none⟩) m c2) := cell_at R0.out
  go_enter Try.func58, Try.ntmps58
  go_wp2_with fail
  go_region_held3 (fun wx => wx.cell? ⟨w.heap.size, 0, none⟩ = some (.slice a n c) ∧ wx.cell? ⟨w.heap.size, 1, none⟩ = some (.slice (some ⟨g0, 0, none⟩) m c2) ∧ wx.cell? ⟨g0, id * 4 + 1, none⟩ = some (.int .i64 (q : Int)) ∧ wx.cell? ⟨g0, id * 4 + 2, none⟩ = some (.int .i64 (r : Int))) (first | (exact ⟨cell_at R0c.out, cell_at R0c.out, hG2.cell jd1 (fun h => h), hG2.cell jd2 (fun h => h)⟩) | (exact ⟨bd0, bd1, jd1, jd2⟩) | go_keep) (first | (go_at_call 114; refine (hLe.out _ (HO.out.chg (Chg.refl (fun _ => False) _).drew fun _ _ _ h => h) (HV.out.chg (Chg.refl (fun _ => False) _).drew fun _ _ _ h => h)).mono ?_; rintro e w2 ⟨rfl, hG2⟩; have R0c := hid (hG2.heap (((Chg.refl (fun _ => False) _).drew).heap R0.out (fun h => h)) (fun h => h)); have R1c := hid (hG2.heap (((Chg.refl (fun _ => False) _).drew).heap R1.out (fun h => h)) (fun h => h)); have GW := hid (GA.out.drew.trans hG2 fun _ _ h => h)))
  have hw : IntKind.i64.wrap ((r : Int) - (q : Int)) = (r : Int) - (q : Int) := by
    rw [IntKind.wrap_i64]
    omega
  rw [hw]
  clear hw
  have HOc := hid ((HO.out.chg (Chg.refl (fun _ => False) _).drew fun _ _ _ h => h).chg hG2 fun _ _ _ h => h)
  have HVc := hid ((HV.out.chg (Chg.refl (fun _ => False) _).drew fun _ _ _ h => h).chg hG2 fun _ _ _ h => h)
  have HUc := hid ((HU.out.chg (Chg.refl (fun _ => False) _).drew fun _ _ _ h => h).chg hG2 fun _ _ _ h => h)
  have z2 : w.heap.size + 2 ≤ w2.heap.size := by have h := hG2.size; simp at h; omega
  have HG0 := hid ((hG2.heap (((Chg.refl (fun _ => False) _).drew).heap HGH.out (fun h => h)) (fun h => h)))
  have e1 := hG2.cell (((Chg.refl (fun _ => False) _).drew).cell j0 (fun h => h)) (fun h => h)
  have e2 := hG2.cell jd1 (fun h => h)
  have e3 := hG2.cell jd2 (fun h => h)
  have e4 := hG2.cell (((Chg.refl (fun _ => False) _).drew).cell j3 (fun h => h)) (fun h => h)
  clear hG2 jd1 jd2 bd0 bd1 j0 j1 j2 j3 R0 R1 HO HV HU GA Z1 HGH
  have kR1 := cells_at R1c.out
  have fR1 := frees_at R1c.out
  by_cases hfit : q + ny ≤ r
  · have b1 : ¬ ((r : Int) - (q : Int) < (ny : Int)) := by omega
    have HAP2 := hid (show appP xs ls id ys = _ from HAP.out.trans (if_pos hfit))
    clear HAP
    go_wp2_with fail
    refine (hCp.out _ HOc.out HVc.out).mono ?_
    rintro e w4 ⟨a3, c3, a4, c4, rfl, hO3, hV3, hG3⟩
    rw [HN.out] at hO3
    rw [HM.out] at hV3
    rw [HN.out, HM.out]
    have zz3 := hG3.size
    have HB3 := hid (fun g (h : some g = (Value.slice a3 n c3).ownBlock) => hO3.own_lt h)
    have HB4 := hid (fun g (h : some g = (Value.slice a4 m c4).ownBlock) => hV3.own_lt h)
    have A4 := (Chg.refl (fun _ => False) w4).alloc (.cells #[.slice a3 n c3, .slice a4 m c4] 67)
    have R0d := hid (A4.heap (hG3.heap R0c.out (fun h => h)) (fun h => h))
    have R1d := hid (A4.heap (hG3.heap R1c.out (fun h => h)) (fun h => h))
    have R8 := hid (heap_new w4 (.cells #[.slice a3 n c3, .slice a4 m c4] 67))
    have HG4 := hid (A4.heap (hG3.heap HG0.out (fun h => h)) (fun h => h))
    have f1 := A4.cell (hG3.cell e1 (fun h => h)) (fun h => h)
    have f2 := A4.cell (hG3.cell e2 (fun h => h)) (fun h => h)
    have f3 := A4.cell (hG3.cell e3 (fun h => h)) (fun h => h)
    have f4 := A4.cell (hG3.cell e4 (fun h => h)) (fun h => h)
    have HO4 := hid (hO3.chg A4 fun _ _ _ h => h)
    have HV4 := hid (hV3.chg A4 fun _ _ _ h => h)
    have HU4 := hid ((HUc.out.chg hG3 fun _ _ _ h => h).chg A4 fun _ _ _ h => h)
    have HUB := hid (fun g (h : some g = (Value.slice ua ny uc).ownBlock) => (HUc.out.own_lt h).2)
    have GW4 := hid ((GW.out.trans hG3 fun _ _ h => h).trans A4 fun _ _ h => h)
    have z5 : w4.heap.size < (w4.alloc (.cells #[.slice a3 n c3, .slice a4 m c4] 67)).heap.size := by simp
    clear A4 hG3 hO3 hV3 kR1 fR1 e1 e2 e3 e4 R0c R1c HG0 HOc HVc HUc GW
    go_upto_region 4 with fail
    generalize hw5 : w4.alloc (.cells #[.slice a3 n c3, .slice a4 m c4] 67) = w5 at *
    clear hw5
    have kR0 := cells_at R0d.out
    have A5 := (Chg.refl (fun _ => False) w5).alloc (.cells #[.int .i64 (p : Int), .int .i64 (q : Int), .int .i64 (r : Int), .bool false] 71)
    have R9e := hid (heap_new w5 (.cells #[.int .i64 (p : Int), .int .i64 (q : Int), .int .i64 (r : Int), .bool false] 71))
    have R1e := hid (A5.heap R1d.out (fun h => h))
    have R8e := hid (A5.heap R8.out (fun h => h))
    have HO5 := hid (HO4.out.chg A5 fun _ _ _ h => h)
    have HV5 := hid (HV4.out.chg A5 fun _ _ _ h => h)
    have HU5 := hid (HU4.out.chg A5 fun _ _ _ h => h)
    have GW5 := hid (GW4.out.trans A5 fun _ _ h => h)
    clear A5
    go_upto_region 5 with fail
    generalize hw6 : w5.alloc (.cells #[.int .i64 (p : Int), .int .i64 (q : Int), .int .i64 (r : Int), .bool false] 71) = w6 at *
    clear hw6 kR0 f1 f2 f3 f4 HG4 R0d R1d R8 HO4 HV4 HU4 GW4
    have Y0 := hid (show OwnC w6 w2.heap.size (.slice a3 n c3) (laid xs (p + q) (ys.take 0)) by rw [List.take_zero, laid_nil]; exact HO5.out)
    go_wp2_with fail
    go_loopw [44] (fun i wx => ∃ (k : Nat), k ≤ ny ∧ i = .int .i64 (k : Int) ∧ Hid (OwnC wx w2.heap.size (.slice a3 n c3) (laid xs (p + q) (ys.take k))) ∧ Hid (OwnL wx w2.heap.size (.slice a4 m c4) ls) ∧ Hid (OwnC wx 0 (.slice ua ny uc) ys) ∧ Hid (wx.heap[w4.heap.size]? = some (.cells #[.slice a3 n c3, .slice a4 m c4] 67 (0, 0))) ∧ Hid (wx.heap[w5.heap.size]? = some (.cells #[.int .i64 (p : Int), .int .i64 (q : Int), .int .i64 (r : Int), .bool false] 71 (0, 0))) ∧ Hid (wx.heap[w.heap.size + 1]? = some (.cells #[.slice none 0 0, .slice none 0 0] 67 (0, 0))) ∧ Hid (Chg (fun _ => False) w wx)) (fun i _ => ny - (intOf i).toNat)
    case atStart => exact ⟨0, by omega, rfl, Y0, HV5, HU5, R8e, R9e, R1e, GW5⟩
    case round =>
      obtain ⟨k, hk, rfl, IO, IV, IU, I8, I9, I1, IG⟩ := hrel
      obtain ⟨wo, rfl⟩ : ∃ wo : World, wo = wr := ⟨_, rfl⟩
      clear Y0 HV5 HU5 R8e R9e R1e GW5 HO5
      have kI8 := cells_at I8.out
      have kI9 := cells_at I9.out
      by_cases hlt : k < ny
      · have hlt' : (k : Int) < (ny : Int) := by omega
        obtain ⟨gu, cu, curu, hvu, hgu0, hgu1, hgcu, hghu, hclu⟩ := IU.out.at2 (n := ny) HY.out (by omega)
        simp at hvu
        obtain ⟨rfl, rfl⟩ := hvu
        have ju : wo.cell? ⟨gu, k, none⟩ = some (.complex .f32 (ys.getD k (0, 0)).1 (ys.getD k (0, 0)).2) := by rw [cell_at hghu, hclu _ hlt]; rfl
        obtain ⟨g3, cc3, cur3, hv3, hg30, hg31, hgc3, hgh3, hcl3⟩ := IO.out.at2 (n := n) (by rw [laid_len]; exact HN.out) (by omega)
        simp at hv3
        obtain ⟨rfl, rfl⟩ := hv3
        have fg := frees_at hgh3
        have jc : wo.cell? ⟨g3, p + q + k, none⟩ = some (cx ((laid xs (p + q) (ys.take k)).getD (p + q + k) (0, 0))) := by rw [cell_at hgh3, hcl3 _ (by omega)]
        have i3 : (p : Int) + (q : Int) + (k : Int) < (n : Int) := by omega
        have i4 : (0 : Int) ≤ (p : Int) + (q : Int) + (k : Int) := by omega
        have hB3 := HB3.out g3 rfl
        have huB := HUB.out gu rfl
        have hys : ys[k]? = some (ys.getD k (0, 0)) := by
          rw [List.getD_eq_getElem?_getD]
          rw [List.getElem?_eq_getElem (by rw [HY.out]; exact hlt)]
          rfl
        have C1 := (Chg.refl (fun j => j = g3) wo).setCell (p := ⟨g3, p + q + k, none⟩) (.inl rfl) (cx (ys.getD k (0, 0)))
        have PO := hid (show OwnC (wo.setCell ⟨g3, p + q + k, none⟩ (cx (ys.getD k (0, 0)))) w2.heap.size (.slice (some ⟨g3, 0, none⟩) n c3) (laid xs (p + q) (ys.take (k + 1))) by
          rw [← laid_succ xs ys (p + q) k _ hys]
          exact IO.out.put _ (by rw [laid_len, HN.out]; omega) _)
        have PV := hid (IV.out.chgN C1 (fun g e1 e2 => by
          subst e2
          exact apartC (by decide) IO.out IV.out rfl e1))
        have PU := hid (IU.out.chgN C1 (fun g e1 e2 => by have := HUB.out g e1; omega))
        have P8 := hid (C1.heap I8.out (by omega))
        have P9 := hid (C1.heap I9.out (by omega))
        have P1 := hid (C1.heap I1.out (by omega))
        have PG := hid (IG.out.trans C1 (fun j hj (e : j = g3) => by omega))
        clear C1 hgh3 hg31 hcl3 hghu hclu hys
        generalize hzz : ys.getD k (0, 0) = zz at *
        clear hzz
        go_wp2_with fail
        go_roundw
        case rel => exact ⟨k + 1, by omega, by go_num, PO, PV, PU, P8, P9, P1, PG⟩
        case measure => simp [intOf]; omega
      · obtain rfl : k = ny := by omega
        have hlt' : ¬ (k : Int) < (k : Int) := by omega
        go_upto_region 10 with fail
        obtain ⟨g, cc, cur, hv2, hg0, hg1, hgc, hgh, l2, hlk, j0, j1, j2, j3⟩ := OwnL.lease IV.out HM.out hid2
        simp at hv2
        obtain ⟨rfl, rfl⟩ := hv2
        have fg := frees_at hgh
        have hB4g := HB4.out g rfl
        have n0 : g ≠ w4.heap.size := by omega
        have n1 : w4.heap.size ≠ g := by omega
        have n2 : g ≠ w.heap.size + 1 := by omega
        have n3 : w.heap.size + 1 ≠ g := by omega
        clear hlk hgh hg1
        have C4 := (Chg.refl (fun j => j = g) wo).setCell (p := ⟨g, id * 4 + 1, none⟩) (.inl rfl) (.int .i64 ((q : Int) + (k : Int)))
        have Q1 := hid (C4.heap I1.out n3)
        have Q8 := hid (C4.heap I8.out n1)
        have O7 := hid (IO.out.chgN C4 (fun j e1 e2 => by
          subst e2
          exact apartC (by decide) IO.out IV.out e1 rfl))
        have V7 : Hid (OwnL (wo.setCell ⟨g, id * 4 + 1, none⟩ (.int .i64 ((q : Int) + (k : Int)))) w2.heap.size (.slice (some ⟨g, 0, none⟩) m c4) (ls.set id ⟨p, q + k, r, false⟩)) := by
          have h := OwnL.putCt IV.out id (q + k) l HLK.out
          rw [HST.out, HRM.out, HLF.out] at h
          rw [show ((q : Int) + (k : Int)) = ((q + k : Nat) : Int) by omega]
          exact h
        have G7 := hid (IG.out.trans C4 (fun j hj (h : j = g) => by omega))
        clear C4
        go_upto_region 11 with fail
        generalize wo.setCell ⟨g, id * 4 + 1, none⟩ (.int .i64 ((q : Int) + (k : Int))) = w7 at *
        clear kI8 kI9 j0 j1 j2 j3 fg IO IV IU I8 I9 I1 IG
        have kQ8 := cells_at Q8.out
        have kQ1 := cells_at Q1.out
        have fQ1 := frees_at Q1.out
        go_wp2_with fail
        refine bodyPost_ret (results_row_tmp (by rfl) _ _ _ (w.heap.size + 1) _ (.bool true) rfl (load_pool (heap_row2 Q1.out _ _) rfl) rfl) rfl ⟨?_, ?_⟩
        · exact G7.out.trans (chg_row2 _ (w.heap.size + 1) (.slice a3 n c3) (.slice (some ⟨g, 0, none⟩) m c4)) (fun j hj (h : j = w.heap.size + 1) => by omega)
        · rw [HAP2.out]
          have CR := chg_row2 w7 (w.heap.size + 1) (.slice a3 n c3) (.slice (some ⟨g, 0, none⟩) m c4)
          have o1 := O7.out.chgN CR (fun j e1 (e2 : j = w.heap.size + 1) => by have := (HB3.out _ e1).1; omega)
          have o2 := OwnR.chgN V7.out CR (fun j e1 (e2 : j = w.heap.size + 1) => by simp [Value.ownBlock] at e1; omega)
          rw [show ys.take k = ys by rw [← HY.out]; exact List.take_length] at o1
          exact ⟨a3, c3, some ⟨g, 0, none⟩, c4, by simp [laid_len, HN.out, HM.out], by simpa [laid_len, HN.out] using o1.mono (by omega), by simpa [HM.out] using OwnR.mono o2 (by omega)⟩
  · have b1 : (r : Int) - (q : Int) < (ny : Int) := by omega
    have HAP2 := hid (show appP xs ls id ys = _ from HAP.out.trans (if_neg hfit))
    clear HAP
    go_wp2_with fail
    refine bodyPost_ret (results_row_tmp (by rfl) _ _ _ (w.heap.size + 1) _ (.bool false) rfl (load_pool (heap_row2 R1c.out _ _) rfl) rfl) rfl ⟨?_, ?_⟩
    · exact GW.out.trans (chg_row2 _ (w.heap.size + 1) (.slice none 0 0) (.slice none 0 0)) (fun j hj (h : j = w.heap.size + 1) => by omega)
    · rw [HAP2.out]
end Go.Proofs.Ytopkehknaclhlaa
