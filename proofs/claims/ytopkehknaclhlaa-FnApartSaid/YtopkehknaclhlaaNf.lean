/- The reference gives a room back. Conditions: the pool is valid. (Printed by gen_pi.py.) -/
import Derived.Test.YtopkehknaclhlaaNe
import Derived.Deep.DeepCutAuto
namespace Go.Proofs.Ytopkehknaclhlaa
open Go Go.RowKit

/-- A pool and true come back, or nothing and false. -/
def RPb (w : World) (r : Option (List (Nat × Nat) × List Ls)) (e : Ending) (w' : World) : Prop :=
  Chg (fun _ => False) w w' ∧ match r with
  | some r => ∃ a c a2 c2, e = .returned (.tuple #[.agg #[.slice a r.1.length c, .slice a2 r.2.length c2], .bool true]) ∧ OwnC w' w.heap.size (.slice a r.1.length c) r.1 ∧ OwnL w' w.heap.size (.slice a2 r.2.length c2) r.2
  | none => e = .returned (.tuple #[.agg #[.slice none 0 0, .slice none 0 0], .bool false])

set_option maxRecDepth 100000 in
set_option maxHeartbeats 4000000 in
theorem GiveBackS_calls (w : World) (s v : Value) (xs : List (Nat × Nat)) (ls : List Ls) (id : Nat) (ho : OwnC w 0 s xs) (hv : OwnL w 0 v ls) (hp : POk xs.length ls) :
    Calls Try.prog 144 #[.agg #[s, v], .int .i64 (id : Int)] w (RPb w (giveP xs ls id)) := by
  obtain ⟨a, c, rfl⟩ := ho.form
  obtain ⟨a2, c2, rfl⟩ := hv.form
  have n256 := hp.nle
  have m16 := hp.len
  have A1 := ((Chg.refl (fun _ => False) w).alloc (.cells #[.slice a xs.length c, .slice a2 ls.length c2] 67)).alloc (.cells #[.slice none 0 0, .slice none 0 0] 67)
  have HO := hid (ho.chg A1 fun _ _ _ h => h)
  have HV := hid (hv.chg A1 fun _ _ _ h => h)
  have R0 := hid (show ((w.alloc (.cells #[.slice a xs.length c, .slice a2 ls.length c2] 67)).alloc (.cells #[.slice none 0 0, .slice none 0 0] 67)).heap[w.heap.size]? = _ from heap_old (heap_new w _))
  have R1 := hid (show ((w.alloc (.cells #[.slice a xs.length c, .slice a2 ls.length c2] 67)).alloc (.cells #[.slice none 0 0, .slice none 0 0] 67)).heap[w.heap.size + 1]? = _ from heap_new' (w := w.alloc _) (b := w.heap.size + 1) (by simp))
  have Z1 := hid (show ((w.alloc (.cells #[.slice a xs.length c, .slice a2 ls.length c2] 67)).alloc (.cells #[.slice none 0 0, .slice none 0 0] 67)).heap.size = w.heap.size + 2 by simp)
  have GA := hid A1
  have HP := hid hp
  have hLe := hid (fun w ho hv => l3Lent_calls w (.slice a xs.length c) (.slice a2 ls.length c2) xs ls id ho hv hp)
  have hCp := hid (fun w ho hv => l3Copy_calls w (.slice a xs.length c) (.slice a2 ls.length c2) xs ls ho hv (by omega) (by omega))
  clear A1 ho hv hp
  generalize hn : xs.length = n at *
  generalize hm : ls.length = m at *
  have HN := hid hn
  have HM := hid hm
  clear hn hm
  go_enter Try.func144, Try.ntmps144
  go_wp2_with fail
  refine (hLe.out _ HO.out HV.out).mono ?_
  rintro e w2 ⟨rfl, hG2⟩
  have R0c := hid (hG2.heap R0.out (fun h => h))
  have R1c := hid (hG2.heap R1.out (fun h => h))
  have HOc := hid (HO.out.chg hG2 fun _ _ _ h => h)
  have HVc := hid (HV.out.chg hG2 fun _ _ _ h => h)
  have z2 : w.heap.size + 2 ≤ w2.heap.size := by have := Z1.out; have := hG2.size; omega
  have GW := hid (GA.out.trans hG2 fun _ _ h => h)
  clear hG2 Z1 GA R0 R1 HO HV hLe
  have kR0 := cells_at R0c.out
  have kR1 := cells_at R1c.out
  have fR1 := frees_at R1c.out
  cases hl : lentB ls id
  · have HG : Hid (giveP xs ls id = none) := by
      unfold giveP
      rw [hl]
      rfl
    clear hl
    go_wp2_with fail
    refine bodyPost_ret (results_row_tmp (by rfl) _ _ _ (w.heap.size + 1) _ (.bool false) rfl (load_pool (heap_row2 R1c.out _ _) rfl) rfl) rfl ⟨?_, ?_⟩
    · exact GW.out.trans (chg_row2 _ (w.heap.size + 1) (.slice none 0 0) (.slice none 0 0)) (fun j hj (h : j = w.heap.size + 1) => by omega)
    · rw [HG.out]
  · have HG : Hid (giveP xs ls id = some (xs, ls.set id Ls.free)) := by
      unfold giveP
      rw [hl]
      rfl
    have hid2 : id < m := by
      obtain ⟨_, _, _, h⟩ := lentB_true hl
      rw [HM.out] at h
      exact h
    clear hl
    go_wp2_with fail
    refine (hCp.out _ HOc.out HVc.out).mono ?_
    rintro e w3 ⟨a3, c3, a4, c4, rfl, hO3, hV3, hG3⟩
    rw [HN.out] at hO3
    rw [HM.out] at hV3
    rw [HN.out, HM.out]
    have zz3 := hG3.size
    have A4 := (Chg.refl (fun _ => False) w3).alloc (.cells #[.slice a3 n c3, .slice a4 m c4] 67)
    have R0d := hid (A4.heap (hG3.heap R0c.out (fun h => h)) (fun h => h))
    have R1d := hid (A4.heap (hG3.heap R1c.out (fun h => h)) (fun h => h))
    have R5 := hid (heap_new w3 (.cells #[.slice a3 n c3, .slice a4 m c4] 67))
    have HO4 := hid (hO3.chg A4 fun _ _ _ h => h)
    have HV4 := hid (hV3.chg A4 fun _ _ _ h => h)
    have HB3 := hid (fun g (h : some g = (Value.slice a3 n c3).ownBlock) => hO3.own_lt h)
    have HB4 := hid (fun g (h : some g = (Value.slice a4 m c4).ownBlock) => hV3.own_lt h)
    have GW4 := hid ((GW.out.trans hG3 fun _ _ h => h).trans A4 fun _ _ h => h)
    have z5 : w3.heap.size < (w3.alloc (.cells #[.slice a3 n c3, .slice a4 m c4] 67)).heap.size := by simp
    clear A4 hG3 hO3 hV3
    have i1 : (id : Int) < (m : Int) := by omega
    go_upto_region 4 with fail
    generalize hw4 : w3.alloc (.cells #[.slice a3 n c3, .slice a4 m c4] 67) = w4 at *
    clear hw4
    obtain ⟨g, cc, cur, hv2, hg0, hg1, hgc, hgh, l, hlk, j0, j1, j2, j3⟩ := OwnL.lease HV4.out HM.out hid2
    simp at hv2
    obtain ⟨rfl, rfl⟩ := hv2
    have fg := frees_at hgh
    have kR5 := cells_at R5.out
    have kR1d := cells_at R1d.out
    have fR1d := frees_at R1d.out
    have hB4 := HB4.out g rfl
    have n0 : g ≠ w3.heap.size := by omega
    have n1 : w3.heap.size ≠ g := by omega
    have n2 : g ≠ w.heap.size + 1 := by omega
    have n3 : w.heap.size + 1 ≠ g := by omega
    have n4 : w3.heap.size ≠ w.heap.size + 1 := by omega
    have n5 : w.heap.size + 1 ≠ w3.heap.size := by omega
    clear hlk hgh hg1
    go_wp2_with fail
    have C4 := chg_row4 w4 g (id * 4) (.int .i64 0) (.int .i64 0) (.int .i64 0) (.bool true)
    have Q1 := C4.heap R1d.out n3
    have O1 := HO4.out.chgN C4 (fun j e1 e2 => by
      subst e2
      exact apartC (by decide) HO4.out HV4.out e1 rfl)
    have V1 : OwnL ((((w4.setCell ⟨g, id * 4, none⟩ (.int .i64 0)).setCell ⟨g, id * 4 + 1, none⟩ (.int .i64 0)).setCell ⟨g, id * 4 + 2, none⟩ (.int .i64 0)).setCell ⟨g, id * 4 + 3, none⟩ (.bool true)) w2.heap.size (.slice (some ⟨g, 0, none⟩) m c4) (ls.set id Ls.free) := OwnL.put HV4.out id Ls.free (by rw [HM.out]; exact hid2)
    have CR := fun wx => chg_row2 wx (w.heap.size + 1) (.slice a3 n c3) (.slice (some ⟨g, 0, none⟩) m c4)
    refine bodyPost_ret (results_row_tmp (by rfl) _ _ _ (w.heap.size + 1) _ (.bool true) rfl (load_pool (heap_row2 Q1 _ _) rfl) rfl) rfl ⟨?_, ?_⟩
    · exact (GW4.out.trans C4 (fun j hj (h : j = g) => by omega)).trans (CR _) (fun j hj (h : j = w.heap.size + 1) => by omega)
    · rw [HG.out]
      have o1 := O1.chgN (CR _) (fun j e1 (e2 : j = w.heap.size + 1) => by have := (HB3.out _ e1).1; omega)
      have o2 := OwnR.chgN V1 (CR _) (fun j e1 (e2 : j = w.heap.size + 1) => by simp [Value.ownBlock] at e1; omega)
      exact ⟨a3, c3, some ⟨g, 0, none⟩, c4, by simp [HN.out, HM.out], by simpa [HN.out] using o1.mono (by omega), by simpa [HM.out] using OwnR.mono o2 (by omega)⟩
end Go.Proofs.Ytopkehknaclhlaa

/- The reference cuts a lease. Conditions: the pool is valid. (Printed by gen_pj.py.) -/
namespace Go.Proofs.Ytopkehknaclhlaa
open Go Go.RowKit

set_option maxRecDepth 100000 in
set_option maxHeartbeats 4000000 in
theorem CutLeaseS_calls (w : World) (s v : Value) (xs : List (Nat × Nat)) (ls : List Ls) (id cut : Nat) (ho : OwnC w 0 s xs) (hv : OwnL w 0 v ls) (hp : POk xs.length ls) (hc9 : cut ≤ 1000) :
    Calls Try.prog 78 #[.agg #[s, v], .int .i64 (id : Int), .int .i64 (cut : Int)] w (RPk w (cutP xs ls id cut)) := by
  obtain ⟨a, c, rfl⟩ := ho.form
  obtain ⟨a2, c2, rfl⟩ := hv.form
  have n256 := hp.nle
  have m16 := hp.len
  have A1 := ((Chg.refl (fun _ => False) w).alloc (.cells #[.slice a xs.length c, .slice a2 ls.length c2] 67)).alloc (.cells #[.slice none 0 0, .slice none 0 0] 67)
  have HO := hid (ho.chg A1 fun _ _ _ h => h)
  have HV := hid (hv.chg A1 fun _ _ _ h => h)
  have R0 := hid (show ((w.alloc (.cells #[.slice a xs.length c, .slice a2 ls.length c2] 67)).alloc (.cells #[.slice none 0 0, .slice none 0 0] 67)).heap[w.heap.size]? = _ from heap_old (heap_new w _))
  have R1 := hid (show ((w.alloc (.cells #[.slice a xs.length c, .slice a2 ls.length c2] 67)).alloc (.cells #[.slice none 0 0, .slice none 0 0] 67)).heap[w.heap.size + 1]? = _ from heap_new' (w := w.alloc _) (b := w.heap.size + 1) (by simp))
  have Z1 := hid (show ((w.alloc (.cells #[.slice a xs.length c, .slice a2 ls.length c2] 67)).alloc (.cells #[.slice none 0 0, .slice none 0 0] 67)).heap.size = w.heap.size + 2 by simp)
  have GA := hid A1
  have HP := hid hp
  have hLe := hid (fun w ho hv => l3Lent_calls w (.slice a xs.length c) (.slice a2 ls.length c2) xs ls id ho hv hp)
  have hCp := hid (fun w ho hv => l3Copy_calls w (.slice a xs.length c) (.slice a2 ls.length c2) xs ls ho hv (by omega) (by omega))
  clear A1 ho hv hp
  generalize hn : xs.length = n at *
  generalize hm : ls.length = m at *
  have HN := hid hn
  have HM := hid hm
  clear hn hm
  go_enter Try.func78, Try.ntmps78
  go_wp2_with fail
  refine (hLe.out _ HO.out HV.out).mono ?_
  rintro e w2 ⟨rfl, hG2⟩
  have R0c := hid (hG2.heap R0.out (fun h => h))
  have R1c := hid (hG2.heap R1.out (fun h => h))
  have HOc := hid (HO.out.chg hG2 fun _ _ _ h => h)
  have HVc := hid (HV.out.chg hG2 fun _ _ _ h => h)
  have z2 : w.heap.size + 2 ≤ w2.heap.size := by have := Z1.out; have := hG2.size; omega
  have GW := hid (GA.out.trans hG2 fun _ _ h => h)
  clear hG2 Z1 GA R0 R1 HO HV hLe
  have kR0 := cells_at R0c.out
  have kR1 := cells_at R1c.out
  have fR1 := frees_at R1c.out
  have stop0 : ∀ (e : Ending), True := fun _ => trivial
  clear stop0
  cases hl : lentB ls id
  · have HG : Hid (cutP xs ls id cut = none) := by
      unfold cutP
      unfold lentB at hl
      cases hq : ls[id]? with
      | none => rfl
      | some l =>
        rw [hq] at hl
        simp at hl
        simp [hl, Hid]
    clear hl
    go_wp2_with fail
    refine bodyPost_ret (row_cell_tmp2 (by rfl) _ _ _ (w.heap.size + 1) _ (.int .i64 0) (.bool false) rfl (load_pool (heap_row2 R1c.out _ _) rfl) rfl rfl) rfl ⟨?_, ?_⟩
    · exact GW.out.trans (chg_row2 _ (w.heap.size + 1) (.slice none 0 0) (.slice none 0 0)) (fun j hj (h : j = w.heap.size + 1) => by omega)
    · rw [HG.out]
  · obtain ⟨l, hlk, hlf, hid2⟩ := lentB_true hl
    rw [HM.out] at hid2
    have HLK := hid hlk
    have HLF := hid hlf
    have hok := HP.out.ok l (List.mem_of_getElem? hlk)
    rcases hok with ⟨h, _⟩ | ⟨_, h1, h2, h3⟩
    · rw [hlf] at h; cases h
    have i1 : (id : Int) < (m : Int) := by omega
    obtain ⟨g0, cc, cur, hv2, hg0, hg1, hgc, hgh, l', hlk', j0, j1, j2, j3⟩ := OwnL.lease HVc.out HM.out hid2
    simp at hv2
    obtain ⟨rfl, rfl⟩ := hv2
    obtain rfl : l = l' := by rw [hlk] at hlk'; exact Option.some.inj hlk'
    rw [hlf] at j3
    have hpos : 1 ≤ l.rm := h1
    generalize hst : l.st = p at *
    generalize hct : l.ct = q at *
    generalize hrm : l.rm = r at *
    have HST := hid hst
    have HCT := hid hct
    have HRM := hid hrm
    clear hl hlk hlk' hlf hgh hst hct hrm
    go_upto_region 4 with fail
    have A3 := (Chg.refl (fun _ => False) w2).alloc (.cells #[.int .i64 (p : Int), .int .i64 (q : Int), .int .i64 (r : Int), .bool false] 71)
    have R0e := hid (A3.heap R0c.out (fun h => h))
    have R1e := hid (A3.heap R1c.out (fun h => h))
    have R9 := hid (heap_new w2 (.cells #[.int .i64 (p : Int), .int .i64 (q : Int), .int .i64 (r : Int), .bool false] 71))
    have HOe := hid (HOc.out.chg A3 fun _ _ _ h => h)
    have HVe := hid (HVc.out.chg A3 fun _ _ _ h => h)
    have GWe := hid (GW.out.trans A3 fun _ _ h => h)
    have z3 : w.heap.size + 2 ≤ w2.heap.size := z2
    have z4 : w2.heap.size < (w2.alloc (.cells #[.int .i64 (p : Int), .int .i64 (q : Int), .int .i64 (r : Int), .bool false] 71)).heap.size := by simp
    clear A3 kR0 kR1 fR1 j0 j1 j2 j3 R0c R1c HOc HVc GW
    generalize hw3 : w2.alloc (.cells #[.int .i64 (p : Int), .int .i64 (q : Int), .int .i64 (r : Int), .bool false] 71) = w3 at *
    clear hw3
    have kR0 := cells_at R0e.out
    have kR1 := cells_at R1e.out
    have kR9 := cells_at R9.out
    have fR1 := frees_at R1e.out
    by_cases hcut : 1 ≤ cut ∧ cut ≤ q ∧ cut + 1 ≤ r
    · obtain ⟨k1, k2, k3⟩ := hcut
      have HCP : Hid (cutP xs ls id cut = (putL (ls.set id (cutA l cut)) (cutB l cut)).map fun y => (xs, y.1, y.2)) := by
        unfold cutP
        rw [HLK.out]
        show (if l.fr = false ∧ 1 ≤ cut ∧ cut ≤ l.ct ∧ cut + 1 ≤ l.rm then (putL (ls.set id (cutA l cut)) (cutB l cut)).map (fun r => (xs, r.1, r.2)) else none) = _
        rw [if_pos ⟨HLF.out, k1, by rw [HCT.out]; exact k2, by rw [HRM.out]; exact k3⟩]
      go_wp2_with (go_at_call 85; refine (l1In_yes _ _ _ _ (by omega) (by omega)).mono ?_; rintro e w' ⟨rfl, rfl⟩)
      all_goals
        refine (hCp.out _ HOe.out HVe.out).mono ?_
        rintro e w4 ⟨a3, c3, a4, c4, rfl, hO3, hV3, hG3⟩
        rw [HN.out] at hO3
        rw [HM.out] at hV3
        rw [HN.out, HM.out]
        have zz3 := hG3.size
        have hB3 := hid (fun g (h : some g = (Value.slice a3 n c3).ownBlock) => hO3.own_lt h)
        have hB4 := hid (fun g (h : some g = (Value.slice a4 m c4).ownBlock) => hV3.own_lt h)
        have A4 := (Chg.refl (fun _ => False) w4).alloc (.cells #[.slice a3 n c3, .slice a4 m c4] 67)
        have R9f := hid (A4.heap (hG3.heap R9.out (fun h => h)) (fun h => h))
        have R1f := hid (A4.heap (hG3.heap R1e.out (fun h => h)) (fun h => h))
        have R5f := hid (heap_new w4 (.cells #[.slice a3 n c3, .slice a4 m c4] 67))
        have HO4 := hid (hO3.chg A4 fun _ _ _ h => h)
        have HV4 := hid (hV3.chg A4 fun _ _ _ h => h)
        have GW4 := hid ((GWe.out.trans hG3 fun _ _ h => h).trans A4 fun _ _ h => h)
        have z5 : w4.heap.size < (w4.alloc (.cells #[.slice a3 n c3, .slice a4 m c4] 67)).heap.size := by simp
        clear A4 hG3 hO3 hV3 kR0 kR1 kR9 fR1 R0e
        go_upto_region 7 with fail
        generalize hw5 : w4.alloc (.cells #[.slice a3 n c3, .slice a4 m c4] 67) = w5 at *
        clear hw5
        obtain ⟨g, cc, cur, hv2, hg0, hg1, hgc, hgh, l2, hlk, j0, j1, j2, j3⟩ := OwnL.lease HV4.out HM.out hid2
        simp at hv2
        obtain ⟨rfl, rfl⟩ := hv2
        have fg := frees_at hgh
        have kR5 := cells_at R5f.out
        have kR9 := cells_at R9f.out
        have hB4g := hB4.out g rfl
        have n0 : g ≠ w4.heap.size := by omega
        have n1 : w4.heap.size ≠ g := by omega
        have n2 : g ≠ w.heap.size + 1 := by omega
        have n3 : w.heap.size + 1 ≠ g := by omega
        have n4 : g ≠ w2.heap.size := by omega
        have n5 : w2.heap.size ≠ g := by omega
        clear hlk hgh hg1
        go_upto_region 8 with fail
        have C4 := chg_row4 w5 g (id * 4) (.int .i64 (p : Int)) (.int .i64 (cut : Int)) (.int .i64 (cut : Int)) (.bool false)
        have Q1 := hid (C4.heap R1f.out n3)
        have Q5 := hid (C4.heap R5f.out n1)
        have Q9 := hid (C4.heap R9f.out n5)
        have O7 := hid (HO4.out.chgN C4 (fun j e1 e2 => by
          subst e2
          exact apartC (by decide) HO4.out HV4.out e1 rfl))
        have V7 : Hid (OwnL ((((w5.setCell ⟨g, id * 4, none⟩ (.int .i64 (p : Int))).setCell ⟨g, id * 4 + 1, none⟩ (.int .i64 (cut : Int))).setCell ⟨g, id * 4 + 2, none⟩ (.int .i64 (cut : Int))).setCell ⟨g, id * 4 + 3, none⟩ (.bool false)) w3.heap.size (.slice (some ⟨g, 0, none⟩) m c4) (ls.set id (cutA l cut))) := by
          have h := OwnL.put HV4.out id (cutA l cut) (by rw [HM.out]; exact hid2)
          rw [show (cutA l cut).st = p from HST.out] at h
          exact h
        have G7 := hid (GW4.out.trans C4 (fun j hj (h : j = g) => by omega))
        have z7 := C4.size
        clear C4 kR5 kR9 fg j0 j1 j2 j3 HV4 HO4 GW4 R5f R9f R1f
        generalize (((w5.setCell ⟨g, id * 4, none⟩ (.int .i64 (p : Int))).setCell ⟨g, id * 4 + 1, none⟩ (.int .i64 (cut : Int))).setCell ⟨g, id * 4 + 2, none⟩ (.int .i64 (cut : Int))).setCell ⟨g, id * 4 + 3, none⟩ (.bool false) = w7 at *
        have kQ5 := cells_at Q5.out
        have kQ9 := cells_at Q9.out
        go_wp2_with fail
        refine (l3Put_up w7 w3.heap.size a3 n c3 (.slice (some ⟨g, 0, none⟩) m c4) (ls.set id (cutA l cut)) (cutB l cut) _ _ _ V7.out (by omega) (by rw [List.length_set, HM.out]; exact m16) (by show (p : Int) + (cut : Int) = ((l.st + cut : Nat) : Int); rw [HST.out]; omega) (by show (q : Int) - (cut : Int) = ((l.ct - cut : Nat) : Int); rw [HCT.out]; omega) (by show (r : Int) - (cut : Int) = ((l.rm - cut : Nat) : Int); rw [HRM.out]; omega) rfl).mono ?_
        rintro e w8 ⟨hG8, hr8⟩
        have S1 := hid (hG8.heap Q1.out (fun e => by simp [Value.ownBlock] at e; omega))
        have kS1 := cells_at S1.out
        have fS1 := frees_at S1.out
        have O8 := hid (O7.out.chgN hG8 (fun j e1 e2 => apartC (by decide) O7.out V7.out e1 e2))
        have G8 := hid (G7.out.trans hG8 (fun j hj e => by simp [Value.ownBlock] at e; omega))
        have hlp := HCP.out
        cases hput : putL (ls.set id (cutA l cut)) (cutB l cut) with
        | none =>
          rw [hput] at hr8 hlp
          obtain rfl := hr8
          have HLP := hid hlp
          clear hlp hput hG8
          go_wp2_with fail
          refine bodyPost_ret (row_cell_tmp2 (by rfl) _ _ _ (w.heap.size + 1) _ (.int .i64 0) (.bool false) rfl (load_pool (heap_row2 S1.out _ _) rfl) rfl rfl) rfl ⟨?_, ?_⟩
          · exact G8.out.trans (chg_row2 _ (w.heap.size + 1) (.slice none 0 0) (.slice none 0 0)) (fun j hj (h : j = w.heap.size + 1) => by omega)
          · rw [HLP.out]; rfl
        | some qq =>
          rw [hput] at hr8 hlp
          obtain ⟨a5, c5, rfl, O5⟩ := hr8
          have HLP := hid hlp
          have HO5 := hid O5
          clear hlp hput hG8 O5
          go_wp2_with fail
          refine bodyPost_ret (row_cell_tmp2 (by rfl) _ _ _ (w.heap.size + 1) _ (.int .i64 (qq.2 : Int)) (.bool true) rfl (load_pool (heap_row2 S1.out _ _) rfl) rfl rfl) rfl ⟨?_, ?_⟩
          · exact G8.out.trans (chg_row2 _ (w.heap.size + 1) (.slice a3 n c3) (.slice a5 qq.1.length c5)) (fun j hj (h : j = w.heap.size + 1) => by omega)
          · rw [HLP.out]
            have CR := chg_row2 w8 (w.heap.size + 1) (.slice a3 n c3) (.slice a5 qq.1.length c5)
            have o1 := O8.out.chgN CR (fun j e1 (e2 : j = w.heap.size + 1) => by have := (hB3.out _ e1).1; omega)
            have o2 := OwnR.chgN HO5.out CR (fun j e1 (e2 : j = w.heap.size + 1) => by subst e2; exact apartT HO5.out S1.out (by decide) e1)
            exact ⟨a3, c3, a5, c5, by simp [HN.out], by simpa [HN.out] using o1.mono (by omega), OwnR.mono o2 (by omega)⟩
    · have HCP : Hid (cutP xs ls id cut = none) := by
        unfold cutP
        rw [HLK.out]
        show (if l.fr = false ∧ 1 ≤ cut ∧ cut ≤ l.ct ∧ cut + 1 ≤ l.rm then (putL (ls.set id (cutA l cut)) (cutB l cut)).map (fun r => (xs, r.1, r.2)) else none) = none
        rw [if_neg (by rw [HCT.out, HRM.out]; rintro ⟨_, h1, h2, h3⟩; exact hcut ⟨h1, h2, h3⟩)]
      go_wp2_with (go_at_call 85; refine (l1In_no _ _ _ _ (by omega)).mono ?_; rintro e w' ⟨rfl, rfl⟩)
      all_goals
        refine bodyPost_ret (row_cell_tmp2 (by rfl) _ _ _ (w.heap.size + 1) _ (.int .i64 0) (.bool false) rfl (load_pool (heap_row2 R1e.out _ _) rfl) rfl rfl) rfl ⟨?_, ?_⟩
        · exact GWe.out.trans (chg_row2 _ (w.heap.size + 1) (.slice none 0 0) (.slice none 0 0)) (fun j hj (h : j = w.heap.size + 1) => by omega)
        · rw [HCP.out]
end Go.Proofs.Ytopkehknaclhlaa

/- The reference appends to a lease. Conditions: the pool is valid. (Printed by gen_pk.py.) -/
namespace Go.Proofs.Ytopkehknaclhlaa
open Go Go.RowKit

theorem laid_nil (xs : List (Nat × Nat)) (p : Nat) : laid xs p [] = xs := by
  apply List.ext_getElem?
  intro j
  by_cases hj : j < xs.length
  · simp [laid, hj]
  · simp [laid, hj]
theorem laid_succ (xs ys : List (Nat × Nat)) (p k : Nat) (z : Nat × Nat) (hk : ys[k]? = some z) : (laid xs p (ys.take k)).set (p + k) z = laid xs p (ys.take (k + 1)) := by
  have hk2 := (List.getElem?_eq_some_iff.mp hk).1
  apply List.ext_getElem?
  intro j
  rw [List.getElem?_set, laid_len]
  by_cases hj : j < xs.length
  · by_cases e : p + k = j
    · subst e
      simp [laid, hj, List.getD_eq_getElem?_getD, hk]
    · rw [if_neg e]
      simp only [laid, List.getElem?_map, List.getElem?_range hj, Option.map_some]
      by_cases h2 : p ≤ j
      · rw [if_pos h2, if_pos h2]
        congr 1
        simp only [List.getD_eq_getElem?_getD]
        by_cases h3 : j - p < k
        · rw [List.getElem?_take_of_lt h3, List.getElem?_take_of_lt (by omega)]
        · rw [List.getElem?_eq_none (l := ys.take k) (by rw [List.length_take]; omega), List.getElem?_eq_none (l := ys.take (k + 1)) (by rw [List.length_take]; omega)]
      · rw [if_neg h2, if_neg h2]
  · rw [List.getElem?_eq_none (l := laid xs p (ys.take (k + 1))) (by rw [laid_len]; omega)]
    by_cases e : p + k = j
    · simp [e, hj]
    · rw [if_neg e, List.getElem?_eq_none (by rw [laid_len]; omega)]

set_option maxRecDepth 100000 in
set_option maxHeartbeats 4000000 in
theorem AppendToS_no (w : World) (s v u : Value) (xs ys : List (Nat × Nat)) (ls : List Ls) (id : Nat) (ho : OwnC w 0 s xs) (hv : OwnL w 0 v ls) (hu : OwnC w 0 u ys) (hp : POk xs.length ls) (hl : lentB ls id = false) :
    Calls Try.prog 58 #[.agg #[s, v], .int .i64 (id : Int), u] w (RPb w none) := by
  obtain ⟨a, c, rfl⟩ := ho.form
  obtain ⟨a2, c2, rfl⟩ := hv.form
  obtain ⟨ua, uc, rfl⟩ := hu.form
  have n256 := hp.nle
  have m16 := hp.len
  have A1 := ((Chg.refl (fun _ => False) w).alloc (.cells #[.slice a xs.length c, .slice a2 ls.length c2] 67)).alloc (.cells #[.slice none 0 0, .slice none 0 0] 67)
  have HO := hid (ho.chg A1 fun _ _ _ h => h)
  have HV := hid (hv.chg A1 fun _ _ _ h => h)
  have R0 := hid (show ((w.alloc (.cells #[.slice a xs.length c, .slice a2 ls.length c2] 67)).alloc (.cells #[.slice none 0 0, .slice none 0 0] 67)).heap[w.heap.size]? = _ from heap_old (heap_new w _))
  have R1 := hid (show ((w.alloc (.cells #[.slice a xs.length c, .slice a2 ls.length c2] 67)).alloc (.cells #[.slice none 0 0, .slice none 0 0] 67)).heap[w.heap.size + 1]? = _ from heap_new' (w := w.alloc _) (b := w.heap.size + 1) (by simp))
  have Z1 := hid (show ((w.alloc (.cells #[.slice a xs.length c, .slice a2 ls.length c2] 67)).alloc (.cells #[.slice none 0 0, .slice none 0 0] 67)).heap.size = w.heap.size + 2 by simp)
  have GA := hid A1
  have HP := hid hp
  have hLe := hid (fun w ho hv => l3Lent_calls w (.slice a xs.length c) (.slice a2 ls.length c2) xs ls id ho hv hp)
  have hCp := hid (fun w ho hv => l3Copy_calls w (.slice a xs.length c) (.slice a2 ls.length c2) xs ls ho hv (by omega) (by omega))
  have HU := hid (hu.chg A1 fun _ _ _ h => h)
  clear A1 ho hv hp
  generalize hn : xs.length = n at *
  generalize hm : ls.length = m at *
  generalize hy : ys.length = ny at *
  have HN := hid hn
  have HM := hid hm
  have HY := hid hy
  clear hn hm hy
  go_enter Try.func58, Try.ntmps58
  rw [hl] at hLe
  clear HN HM HY HP hCp hl HU
  have kR0 := cells_at R0.out
  go_wp2_with fail
  refine wp_region_any (by kernel_rfl) ?_
  change wpAny _ _ _ _ _ _ _ (World.drew _)
  refine wpAny_take (i := 1) (v := ?_) rfl (by kernel_rfl) (by kernel_rfl) (by kernel_rfl) (fun _ _ _ h => h) (Or.inl ⟨by kernel_rfl, ?_⟩) ?_
  rotate_left
  · (intro w; go_simp) <;> with_reducible rfl
  simp only [Act.put, List.setIfInBounds_toArray, List.set_cons_zero, List.set_cons_succ, List.getElem_toArray, List.getElem_cons_zero, List.getElem_cons_succ]
  refine wpAny_ready (rs := [0]) (by kernel_rfl) (by simp) ?_
  refine AllReady.cons rfl (fun K hK => ?_) AllReady.nil
  go_simp
  refine hK _ _ ?_; clear hK K
  refine wpAny_ready (rs := [2]) (by kernel_rfl) (by simp) ?_
  refine AllReady.cons rfl (fun K hK => ?_) AllReady.nil
  go_simp
  go_wp2_with (first | (go_at_call 114; refine (hLe.out _ (HO.out.chg (Chg.refl (fun _ => False) _).drew fun _ _ _ h => h) (HV.out.chg (Chg.refl (fun _ => False) _).drew fun _ _ _ h => h)).mono ?_; rintro e w2 ⟨rfl, hG2⟩; have R0c := hid (hG2.heap (((Chg.refl (fun _ => False) _).drew).heap R0.out (fun h => h)) (fun h => h)); have R1c := hid (hG2.heap (((Chg.refl (fun _ => False) _).drew).heap R1.out (fun h => h)) (fun h => h)); have GW := hid (GA.out.drew.trans hG2 fun _ _ h => h); have kR0 := cells_at R0c.out; have kR1 := cells_at R1c.out; have fR1 := frees_at R1c.out))
  refine wpAny_take (i := 3) (v := ?_) rfl (by kernel_rfl) (by kernel_rfl) (by kernel_rfl) (fun _ _ _ h => h) (Or.inl ⟨by kernel_rfl, ?_⟩) ?_
  rotate_left
  · (intro w; go_simp) <;> with_reducible rfl
  simp only [Act.put, List.setIfInBounds_toArray, List.set_cons_zero, List.set_cons_succ, List.getElem_toArray, List.getElem_cons_zero, List.getElem_cons_succ]
  refine wpAny_take (i := 4) (v := ?_) rfl (by kernel_rfl) (by kernel_rfl) (by kernel_rfl) (fun _ _ _ h => h) (Or.inl ⟨by kernel_rfl, ?_⟩) ?_
  rotate_left
  · (intro w; go_simp) <;> with_reducible rfl
  simp only [Act.put, List.setIfInBounds_toArray, List.set_cons_zero, List.set_cons_succ, List.getElem_toArray, List.getElem_cons_zero, List.getElem_cons_succ]
  refine wpAny_take (i := 5) (v := undef) rfl (by kernel_rfl) (by kernel_rfl) (by kernel_rfl) (fun _ _ _ h => h) (Or.inr ⟨by kernel_rfl, rfl⟩) ?_
  simp only [Act.put, List.setIfInBounds_toArray, List.set_cons_zero, List.set_cons_succ, List.getElem_toArray, List.getElem_cons_zero, List.getElem_cons_succ]
  refine wpAny_take (i := 6) (v := undef) rfl (by kernel_rfl) (by kernel_rfl) (by kernel_rfl) (fun _ _ _ h => h) (Or.inr ⟨by kernel_rfl, rfl⟩) ?_
  simp only [Act.put, List.setIfInBounds_toArray, List.set_cons_zero, List.set_cons_succ, List.getElem_toArray, List.getElem_cons_zero, List.getElem_cons_succ]
  refine wpAny_take (i := 7) (v := undef) rfl (by kernel_rfl) (by kernel_rfl) (by kernel_rfl) (fun _ _ _ h => h) (Or.inr ⟨by kernel_rfl, rfl⟩) ?_
  simp only [Act.put, List.setIfInBounds_toArray, List.set_cons_zero, List.set_cons_succ, List.getElem_toArray, List.getElem_cons_zero, List.getElem_cons_succ]
  refine wpAny_take (i := 8) (v := undef) rfl (by kernel_rfl) (by kernel_rfl) (by kernel_rfl) (fun _ _ _ h => h) (Or.inr ⟨by kernel_rfl, rfl⟩) ?_
  simp only [Act.put, List.setIfInBounds_toArray, List.set_cons_zero, List.set_cons_succ, List.getElem_toArray, List.getElem_cons_zero, List.getElem_cons_succ]
  refine wpAny_take (i := 9) (v := undef) rfl (by kernel_rfl) (by kernel_rfl) (by kernel_rfl) (fun _ _ _ h => h) (Or.inr ⟨by kernel_rfl, rfl⟩) ?_
  simp only [Act.put, List.setIfInBounds_toArray, List.set_cons_zero, List.set_cons_succ, List.getElem_toArray, List.getElem_cons_zero, List.getElem_cons_succ]
  refine wpAny_take (i := 10) (v := undef) rfl (by kernel_rfl) (by kernel_rfl) (by kernel_rfl) (fun _ _ _ h => h) (Or.inr ⟨by kernel_rfl, rfl⟩) ?_
  simp only [Act.put, List.setIfInBounds_toArray, List.set_cons_zero, List.set_cons_succ, List.getElem_toArray, List.getElem_cons_zero, List.getElem_cons_succ]
  refine wpAny_take (i := 11) (v := undef) rfl (by kernel_rfl) (by kernel_rfl) (by kernel_rfl) (fun _ _ _ h => h) (Or.inr ⟨by kernel_rfl, rfl⟩) ?_
  simp only [Act.put, List.setIfInBounds_toArray, List.set_cons_zero, List.set_cons_succ, List.getElem_toArray, List.getElem_cons_zero, List.getElem_cons_succ]
  refine wpAny_take (i := 12) (v := undef) rfl (by kernel_rfl) (by kernel_rfl) (by kernel_rfl) (fun _ _ _ h => h) (Or.inr ⟨by kernel_rfl, rfl⟩) ?_
  simp only [Act.put, List.setIfInBounds_toArray, List.set_cons_zero, List.set_cons_succ, List.getElem_toArray, List.getElem_cons_zero, List.getElem_cons_succ]
  refine wpAny_take (i := 13) (v := undef) rfl (by kernel_rfl) (by kernel_rfl) (by kernel_rfl) (fun _ _ _ h => h) (Or.inr ⟨by kernel_rfl, rfl⟩) ?_
  simp only [Act.put, List.setIfInBounds_toArray, List.set_cons_zero, List.set_cons_succ, List.getElem_toArray, List.getElem_cons_zero, List.getElem_cons_succ]
  refine wpAny_take (i := 14) (v := undef) rfl (by kernel_rfl) (by kernel_rfl) (by kernel_rfl) (fun _ _ _ h => h) (Or.inr ⟨by kernel_rfl, rfl⟩) ?_
  simp only [Act.put, List.setIfInBounds_toArray, List.set_cons_zero, List.set_cons_succ, List.getElem_toArray, List.getElem_cons_zero, List.getElem_cons_succ]
  refine wpAny_take (i := 15) (v := undef) rfl (by kernel_rfl) (by kernel_rfl) (by kernel_rfl) (fun _ _ _ h => h) (Or.inr ⟨by kernel_rfl, rfl⟩) ?_
  simp only [Act.put, List.setIfInBounds_toArray, List.set_cons_zero, List.set_cons_succ, List.getElem_toArray, List.getElem_cons_zero, List.getElem_cons_succ]
  refine wpAny_take (i := 16) (v := undef) rfl (by kernel_rfl) (by kernel_rfl) (by kernel_rfl) (fun _ _ _ h => h) (Or.inr ⟨by kernel_rfl, rfl⟩) ?_
  simp only [Act.put, List.setIfInBounds_toArray, List.set_cons_zero, List.set_cons_succ, List.getElem_toArray, List.getElem_cons_zero, List.getElem_cons_succ]
  refine wpAny_take (i := 17) (v := undef) rfl (by kernel_rfl) (by kernel_rfl) (by kernel_rfl) (fun _ _ _ h => h) (Or.inr ⟨by kernel_rfl, rfl⟩) ?_
  simp only [Act.put, List.setIfInBounds_toArray, List.set_cons_zero, List.set_cons_succ, List.getElem_toArray, List.getElem_cons_zero, List.getElem_cons_succ]
  refine wpAny_take (i := 18) (v := undef) rfl (by kernel_rfl) (by kernel_rfl) (by kernel_rfl) (fun _ _ _ h => h) (Or.inr ⟨by kernel_rfl, rfl⟩) ?_
  simp only [Act.put, List.setIfInBounds_toArray, List.set_cons_zero, List.set_cons_succ, List.getElem_toArray, List.getElem_cons_zero, List.getElem_cons_succ]
  refine wpAny_take (i := 19) (v := undef) rfl (by kernel_rfl) (by kernel_rfl) (by kernel_rfl) (fun _ _ _ h => h) (Or.inr ⟨by kernel_rfl, rfl⟩) ?_
  simp only [Act.put, List.setIfInBounds_toArray, List.set_cons_zero, List.set_cons_succ, List.getElem_toArray, List.getElem_cons_zero, List.getElem_cons_succ]
  refine wpAny_take (i := 20) (v := undef) rfl (by kernel_rfl) (by kernel_rfl) (by kernel_rfl) (fun _ _ _ h => h) (Or.inr ⟨by kernel_rfl, rfl⟩) ?_
  simp only [Act.put, List.setIfInBounds_toArray, List.set_cons_zero, List.set_cons_succ, List.getElem_toArray, List.getElem_cons_zero, List.getElem_cons_succ]
  refine wpAny_take (i := 21) (v := ?_) rfl (by kernel_rfl) (by kernel_rfl) (by kernel_rfl) (fun _ _ _ h => h) (Or.inl ⟨by kernel_rfl, ?_⟩) ?_
  rotate_left
  · (intro w; go_simp) <;> with_reducible rfl
  simp only [Act.put, List.setIfInBounds_toArray, List.set_cons_zero, List.set_cons_succ, List.getElem_toArray, List.getElem_cons_zero, List.getElem_cons_succ]
  refine wpAny_done (by kernel_rfl) ?_ _
  go_wp2_with fail
  refine bodyPost_ret (results_row_tmp (by rfl) _ _ _ (w.heap.size + 1) _ (.bool false) rfl (load_pool (heap_row2 R1c.out _ _) rfl) rfl) rfl ⟨?_, rfl⟩
  exact GW.out.trans (chg_row2 _ (w.heap.size + 1) (.slice none 0 0) (.slice none 0 0)) (fun j hj (h : j = w.heap.size + 1) => by omega)
end Go.Proofs.Ytopkehknaclhlaa
