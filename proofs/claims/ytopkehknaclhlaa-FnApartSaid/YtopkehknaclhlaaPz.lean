/- The program gives a room back, and shows a window. Conditions: the pool is valid. (Printed by gen_pz.py.) -/
import Derived.Test.YtopkehknaclhlaaPy
namespace Go.Proofs.Ytopkehknaclhlaa
open Go Go.RowKit

set_option maxRecDepth 100000 in
set_option maxHeartbeats 4000000 in
theorem GiveBack_calls (w : World) (s v : Value) (xs : List (Nat × Nat)) (ls : List Ls) (id : Nat) (ho : OwnC w 0 s xs) (hv : OwnL w 0 v ls) (hp : POk xs.length ls) :
    Calls Try.prog 76 #[.agg #[s, v], .int .i64 (id : Int)] w (RPb w (giveP xs ls id)) := by
  obtain ⟨a, c, rfl⟩ := ho.form
  obtain ⟨a2, c2, rfl⟩ := hv.form
  have n256 := hp.nle
  have m16 := hp.len
  have A1 := ((Chg.refl (fun _ => False) w).alloc (.cells #[.slice a xs.length c, .slice a2 ls.length c2] 67)).alloc (.cells #[.slice none 0 0, .slice none 0 0] 67)
  have HO := hid (ho.chg A1 fun _ _ _ h => h)
  have HV := hid (hv.chg A1 fun _ _ _ h => h)
  have R0 := hid (show ((w.alloc (.cells #[.slice a xs.length c, .slice a2 ls.length c2] 67)).alloc (.cells #[.slice none 0 0, .slice none 0 0] 67)).heap[w.heap.size]? = _ from heap_old (heap_new w _))
  have R1 := hid (show ((w.alloc (.cells #[.slice a xs.length c, .slice a2 ls.length c2] 67)).alloc (.cells #[.slice none 0 0, .slice none 0 0] 67)).heap[w.heap.size + 1]? = _ from heap_new' (w := w.alloc _) (b := w.heap.size + 1) (by simp))
  have Z1 := hid (show ((w.alloc (.cells #[.slice a xs.length c, .slice a2 ls.length c2] 67)).alloc (.cells #[.slice none 0 0, .slice none 0 0] 67)).heap.size = w.heap.size + 2 by simp)
  have GA := hid A1
  have HP := hid hp
  have hIs := hid (fun w ho hv => IsPool_calls w (.slice a xs.length c) (.slice a2 ls.length c2) xs ls ho hv hp)
  have hLe := hid (fun w ho hv => isLent_calls w (.slice a xs.length c) (.slice a2 ls.length c2) xs ls id ho hv (by omega))
  have hCp := hid (fun w ho hv => copyPool_calls w (.slice a xs.length c) (.slice a2 ls.length c2) xs ls ho hv (by omega) (by omega))
  clear A1 ho hv hp
  generalize hn : xs.length = n at *
  generalize hm : ls.length = m at *
  have HN := hid hn
  have HM := hid hm
  clear hn hm
  have kR0i := cells_at R0.out
  cases hl : lentB ls id
  · have HG : Hid (giveP xs ls id = none) := by
      unfold giveP
      rw [hl]
      rfl
    rw [hl] at hLe
    clear hl
    go_enter Try.func76, Try.ntmps76
    go_wp2_with (first | (go_at_call 106; refine (hIs.out _ HO.out HV.out).mono ?_; rintro e w1 ⟨rfl, hG⟩; have R0b := hid (hG.heap R0.out (fun h => h)); have kR0b := cells_at R0b.out; have HO1 := hid (HO.out.chg hG fun _ _ _ h => h); have HV1 := hid (HV.out.chg hG fun _ _ _ h => h); have G1 := hid hG) | (go_at_call 107; refine (hLe.out _ HO1.out HV1.out).mono ?_; rintro e w2 ⟨rfl, hG2⟩; have R0c := hid (hG2.heap R0b.out (fun h => h)); have R1c := hid (hG2.heap (G1.out.heap R1.out (fun h => h)) (fun h => h)); have kR1 := cells_at R1c.out; have fR1 := frees_at R1c.out; have HOc := hid (HO1.out.chg hG2 fun _ _ _ h => h); have HVc := hid (HV1.out.chg hG2 fun _ _ _ h => h); have kR0 := cells_at R0c.out; have z2 : w.heap.size + 2 ≤ w2.heap.size := (by have := Z1.out; have := G1.out.size; have := hG2.size; omega); have GW := hid ((GA.out.trans G1.out fun _ _ h => h).trans hG2 fun _ _ h => h)))
    refine bodyPost_ret (results_row_tmp (by rfl) _ _ _ (w.heap.size + 1) _ (.bool false) rfl (load_pool (heap_row2 R1c.out _ _) rfl) rfl) rfl ⟨?_, ?_⟩
    · exact GW.out.trans (chg_row2 _ (w.heap.size + 1) (.slice none 0 0) (.slice none 0 0)) (fun j hj (h : j = w.heap.size + 1) => by omega)
    · rw [HG.out]
  · have HG : Hid (giveP xs ls id = some (xs, ls.set id Ls.free)) := by
      unfold giveP
      rw [hl]
      rfl
    have hid2 : id < m := by
      obtain ⟨_, _, _, h⟩ := lentB_true hl
      rw [HM.out] at h
      exact h
    rw [hl] at hLe
    clear hl
    go_enter Try.func76, Try.ntmps76
    go_wp2_with (first | (go_at_call 106; refine (hIs.out _ HO.out HV.out).mono ?_; rintro e w1 ⟨rfl, hG⟩; have R0b := hid (hG.heap R0.out (fun h => h)); have kR0b := cells_at R0b.out; have HO1 := hid (HO.out.chg hG fun _ _ _ h => h); have HV1 := hid (HV.out.chg hG fun _ _ _ h => h); have G1 := hid hG) | (go_at_call 107; refine (hLe.out _ HO1.out HV1.out).mono ?_; rintro e w2 ⟨rfl, hG2⟩; have R0c := hid (hG2.heap R0b.out (fun h => h)); have R1c := hid (hG2.heap (G1.out.heap R1.out (fun h => h)) (fun h => h)); have kR1 := cells_at R1c.out; have fR1 := frees_at R1c.out; have HOc := hid (HO1.out.chg hG2 fun _ _ _ h => h); have HVc := hid (HV1.out.chg hG2 fun _ _ _ h => h); have kR0 := cells_at R0c.out; have z2 : w.heap.size + 2 ≤ w2.heap.size := (by have := Z1.out; have := G1.out.size; have := hG2.size; omega); have GW := hid ((GA.out.trans G1.out fun _ _ h => h).trans hG2 fun _ _ h => h)))
    refine (hCp.out _ HOc.out HVc.out).mono ?_
    rintro e w3 ⟨a3, c3, a4, c4, rfl, hO3, hV3, hG3⟩
    rw [HN.out] at hO3
    rw [HM.out] at hV3
    rw [HN.out, HM.out]
    have zz3 := hG3.size
    have A4 := (Chg.refl (fun _ => False) w3).alloc (.cells #[.slice a3 n c3, .slice a4 m c4] 67)
    have R0d := hid (A4.heap (hG3.heap R0c.out (fun h => h)) (fun h => h))
    have R1d := hid (A4.heap (hG3.heap R1c.out (fun h => h)) (fun h => h))
    have R5 := hid (heap_new w3 (.cells #[.slice a3 n c3, .slice a4 m c4] 67))
    have HO4 := hid (hO3.chg A4 fun _ _ _ h => h)
    have HV4 := hid (hV3.chg A4 fun _ _ _ h => h)
    have HB3 := hid (fun g (h : some g = (Value.slice a3 n c3).ownBlock) => hO3.own_lt h)
    have HB4 := hid (fun g (h : some g = (Value.slice a4 m c4).ownBlock) => hV3.own_lt h)
    have GW4 := hid ((GW.out.trans hG3 fun _ _ h => h).trans A4 fun _ _ h => h)
    have z5 : w3.heap.size < (w3.alloc (.cells #[.slice a3 n c3, .slice a4 m c4] 67)).heap.size := by simp
    clear A4 hG3 hO3 hV3
    have i1 : (id : Int) < (m : Int) := by omega
    go_upto_region 4 with fail
    generalize hw4 : w3.alloc (.cells #[.slice a3 n c3, .slice a4 m c4] 67) = w4 at *
    clear hw4
    obtain ⟨g, cc, cur, hv2, hg0, hg1, hgc, hgh, l, hlk, j0, j1, j2, j3⟩ := OwnL.lease HV4.out HM.out hid2
    simp at hv2
    obtain ⟨rfl, rfl⟩ := hv2
    have fg := frees_at hgh
    have kR5 := cells_at R5.out
    have kR1d := cells_at R1d.out
    have fR1d := frees_at R1d.out
    have hB4 := HB4.out g rfl
    have n0 : g ≠ w3.heap.size := by omega
    have n1 : w3.heap.size ≠ g := by omega
    have n2 : g ≠ w.heap.size + 1 := by omega
    have n3 : w.heap.size + 1 ≠ g := by omega
    have n4 : w3.heap.size ≠ w.heap.size + 1 := by omega
    have n5 : w.heap.size + 1 ≠ w3.heap.size := by omega
    clear hlk hgh hg1
    go_wp2_with fail
    have C4 := chg_row4 w4 g (id * 4) (.int .i64 0) (.int .i64 0) (.int .i64 0) (.bool true)
    have Q1 := C4.heap R1d.out n3
    have O1 := HO4.out.chgN C4 (fun j e1 e2 => by
      subst e2
      exact apartC (by decide) HO4.out HV4.out e1 rfl)
    have V1 : OwnL ((((w4.setCell ⟨g, id * 4, none⟩ (.int .i64 0)).setCell ⟨g, id * 4 + 1, none⟩ (.int .i64 0)).setCell ⟨g, id * 4 + 2, none⟩ (.int .i64 0)).setCell ⟨g, id * 4 + 3, none⟩ (.bool true)) w2.heap.size (.slice (some ⟨g, 0, none⟩) m c4) (ls.set id Ls.free) := OwnL.put HV4.out id Ls.free (by rw [HM.out]; exact hid2)
    have CR := fun wx => chg_row2 wx (w.heap.size + 1) (.slice a3 n c3) (.slice (some ⟨g, 0, none⟩) m c4)
    refine bodyPost_ret (results_row_tmp (by rfl) _ _ _ (w.heap.size + 1) _ (.bool true) rfl (load_pool (heap_row2 Q1 _ _) rfl) rfl) rfl ⟨?_, ?_⟩
    · exact (GW4.out.trans C4 (fun j hj (h : j = g) => by omega)).trans (CR _) (fun j hj (h : j = w.heap.size + 1) => by omega)
    · rw [HG.out]
      have o1 := O1.chgN (CR _) (fun j e1 (e2 : j = w.heap.size + 1) => by have := (HB3.out _ e1).1; omega)
      have o2 := OwnR.chgN V1 (CR _) (fun j e1 (e2 : j = w.heap.size + 1) => by simp [Value.ownBlock] at e1; omega)
      exact ⟨a3, c3, some ⟨g, 0, none⟩, c4, by simp [HN.out, HM.out], by simpa [HN.out] using o1.mono (by omega), by simpa [HM.out] using OwnR.mono o2 (by omega)⟩

set_option maxRecDepth 100000 in
set_option maxHeartbeats 4000000 in
theorem WindowOf_calls (w : World) (s v : Value) (xs : List (Nat × Nat)) (ls : List Ls) (id : Nat) (ho : OwnC w 0 s xs) (hv : OwnL w 0 v ls) (hp : POk xs.length ls) :
    Calls Try.prog 59 #[.agg #[s, v], .int .i64 (id : Int)] w (RWin w (winP xs ls id)) := by
  obtain ⟨a, c, rfl⟩ := ho.form
  obtain ⟨a2, c2, rfl⟩ := hv.form
  have n256 := hp.nle
  have m16 := hp.len
  have A1 := ((Chg.refl (fun _ => False) w).alloc (.cells #[.slice a xs.length c, .slice a2 ls.length c2] 67))
  have HO := hid (ho.chg A1 fun _ _ _ h => h)
  have HV := hid (hv.chg A1 fun _ _ _ h => h)
  have R0 := hid (show (w.alloc (.cells #[.slice a xs.length c, .slice a2 ls.length c2] 67)).heap[w.heap.size]? = _ from heap_new w _)
  have Z1 := hid (show (w.alloc (.cells #[.slice a xs.length c, .slice a2 ls.length c2] 67)).heap.size = w.heap.size + 1 by simp)
  have GA := hid A1
  have HP := hid hp
  have hIs := hid (fun w ho hv => IsPool_calls w (.slice a xs.length c) (.slice a2 ls.length c2) xs ls ho hv hp)
  have hLe := hid (fun w ho hv => isLent_calls w (.slice a xs.length c) (.slice a2 ls.length c2) xs ls id ho hv (by omega))
  have hCp := hid (fun w ho hv => copyPool_calls w (.slice a xs.length c) (.slice a2 ls.length c2) xs ls ho hv (by omega) (by omega))
  clear A1 ho hv hp
  generalize hn : xs.length = n at *
  generalize hm : ls.length = m at *
  have HN := hid hn
  have HM := hid hm
  clear hn hm
  have kR0i := cells_at R0.out
  cases hl : lentB ls id
  · have HW := hid (winP_none (xs := xs) hl)
    rw [hl] at hLe
    clear hl
    go_enter Try.func59, Try.ntmps59
    go_wp2_with (first | (go_at_call 106; refine (hIs.out _ HO.out HV.out).mono ?_; rintro e w1 ⟨rfl, hG⟩; have R0b := hid (hG.heap R0.out (fun h => h)); have kR0b := cells_at R0b.out; have HO1 := hid (HO.out.chg hG fun _ _ _ h => h); have HV1 := hid (HV.out.chg hG fun _ _ _ h => h); have G1 := hid hG) | (go_at_call 107; refine (hLe.out _ HO1.out HV1.out).mono ?_; rintro e w2 ⟨rfl, hG2⟩; have R0c := hid (hG2.heap R0b.out (fun h => h)); have HOc := hid (HO1.out.chg hG2 fun _ _ _ h => h); have HVc := hid (HV1.out.chg hG2 fun _ _ _ h => h); have kR0 := cells_at R0c.out; have z2 : w.heap.size + 1 ≤ w2.heap.size := (by have := Z1.out; have := G1.out.size; have := hG2.size; omega); have GW := hid ((GA.out.trans G1.out fun _ _ h => h).trans hG2 fun _ _ h => h)))
    go_ret2
    exact ⟨GW.out, by rw [HW.out]; rfl⟩
  · obtain ⟨l, hlk, hlf, hid2⟩ := lentB_true hl
    rw [HM.out] at hid2
    have HW : Hid (winP xs ls id = some ((xs.drop l.st).take l.ct)) := by
      unfold winP
      rw [hlk]
      show (if l.fr = false then some ((xs.drop l.st).take l.ct) else none) = _
      rw [if_pos hlf]
    have hok := HP.out.ok l (List.mem_of_getElem? hlk)
    rcases hok with ⟨h, _⟩ | ⟨_, h1, h2, h3⟩
    · rw [hlf] at h; cases h
    rw [hl] at hLe
    go_enter Try.func59, Try.ntmps59
    go_upto_region 3 with (first | (go_at_call 106; refine (hIs.out _ HO.out HV.out).mono ?_; rintro e w1 ⟨rfl, hG⟩; have R0b := hid (hG.heap R0.out (fun h => h)); have kR0b := cells_at R0b.out; have HO1 := hid (HO.out.chg hG fun _ _ _ h => h); have HV1 := hid (HV.out.chg hG fun _ _ _ h => h); have G1 := hid hG) | (go_at_call 107; refine (hLe.out _ HO1.out HV1.out).mono ?_; rintro e w2 ⟨rfl, hG2⟩; have R0c := hid (hG2.heap R0b.out (fun h => h)); have HOc := hid (HO1.out.chg hG2 fun _ _ _ h => h); have HVc := hid (HV1.out.chg hG2 fun _ _ _ h => h); have kR0 := cells_at R0c.out; have z2 : w.heap.size + 1 ≤ w2.heap.size := (by have := Z1.out; have := G1.out.size; have := hG2.size; omega); have GW := hid ((GA.out.trans G1.out fun _ _ h => h).trans hG2 fun _ _ h => h)))
    have i1 : (id : Int) < (m : Int) := by omega
    obtain ⟨g0, cc, cur, hv2, hg0, hg1, hgc, hgh, l', hlk', j0, j1, j2, j3⟩ := OwnL.lease HVc.out HM.out hid2
    simp at hv2
    obtain ⟨rfl, rfl⟩ := hv2
    obtain rfl : l = l' := by rw [hlk] at hlk'; exact Option.some.inj hlk'
    rw [hlf] at j3
    generalize l.st = p at *
    generalize l.ct = q at *
    generalize l.rm = r at *
    clear hl hlk hlk' hlf hgh
    go_upto_region 4 with fail
    have A3 := (Chg.refl (fun _ => False) w2).alloc (.cells #[.int .i64 (p : Int), .int .i64 (q : Int), .int .i64 (r : Int), .bool false] 71)
    have R0e := hid (A3.heap R0c.out (fun h => h))
    have R9 := hid (heap_new w2 (.cells #[.int .i64 (p : Int), .int .i64 (q : Int), .int .i64 (r : Int), .bool false] 71))
    have HOe := hid (HOc.out.chg A3 fun _ _ _ h => h)
    have GWe := hid (GW.out.trans A3 fun _ _ h => h)
    have z4 : w2.heap.size < (w2.alloc (.cells #[.int .i64 (p : Int), .int .i64 (q : Int), .int .i64 (r : Int), .bool false] 71)).heap.size := by simp
    clear A3 kR0 j0 j1 j2 j3 R0c HOc HVc GW
    generalize hw3 : w2.alloc (.cells #[.int .i64 (p : Int), .int .i64 (q : Int), .int .i64 (r : Int), .bool false] 71) = w3 at *
    clear hw3
    obtain ⟨g, ca, curc, hva, hga, hgb, hgd, hgha, hcl⟩ := HOe.out.at2 (n := n) HN.out (by omega)
    simp at hva
    obtain ⟨rfl, rfl⟩ := hva
    obtain ⟨ys, hys, hyl⟩ : ∃ ys, ys = (xs.drop p).take q ∧ ys.length = q := ⟨_, rfl, by rw [List.length_take, List.length_drop]; have := HN.out; omega⟩
    rw [← hys] at HW
    have hRD : RdC w3 (.slice (some ⟨g, p, none⟩) ys.length (c - p)) ys := by
      refine .inr ⟨g, p, c - p, rfl, hgb, by omega, ?_, fun j hj => ?_⟩
      · rcases HOe.out.block with ⟨h, _⟩ | ⟨_, _, _, hh, _, _, _, hm2, _⟩
        · simp at h
        · simp at hh
          omega
      · rw [cell_at hgha, hcl (p + j) (by omega)]
        congr 2
        simp only [hys, List.getD_eq_getElem?_getD]
        rw [List.getElem_take, List.getElem_drop, List.getElem?_eq_getElem (by have := HN.out; omega)]
        rfl
    have R0f := R0e
    have kR0 := cells_at R0e.out
    have kR9 := cells_at R9.out
    have HYL := hid hyl
    have s1 : (p : Int) ≤ (p : Int) + (q : Int) := by omega
    have s2 : (p : Int) + (q : Int) ≤ (c : Int) := by omega
    have s3 : p < c := by omega
    have HRD : Hid (RdC w3 (.slice (some ⟨g, p, none⟩) q (c - p)) ys) := by rw [← hyl]; exact hRD
    clear hys hRD hcl hgha
    have hq9 : q ≤ 1000 := by omega
    clear hyl
    go_wp2_with (go_at_call 97; refine (CloneRd_calls _ _ ys (by have := HYL.out; omega) HRD.out).mono ?_; rintro e w5 ⟨a5, c5, rfl, o5, g5⟩)
    go_ret2
    refine ⟨GWe.out.trans g5 (fun _ _ h => h), ?_⟩
    rw [HW.out]
    exact ⟨a5, c5, rfl, o5.mono (by omega)⟩
end Go.Proofs.Ytopkehknaclhlaa
