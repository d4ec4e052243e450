/- The program lends a room. Conditions: the pool is valid. (Printed by gen_qa.py.) -/
import Derived.Test.YtopkehknaclhlaaPz
import Derived.Lib.SliceRun
namespace Go.Proofs.Ytopkehknaclhlaa
open Go Go.RowKit

theorem zeroed_cons (xs : List (Nat × Nat)) (p r : Nat) : zeroed (xs.set p (0, 0)) (p + 1) r = zeroed xs p (r + 1) := by
  apply List.ext_getElem?
  intro j
  by_cases hj : j < xs.length
  · simp [zeroed, hj, List.getElem_set]
    by_cases e : p = j
    · subst e
      simp
    · by_cases h2 : p + 1 ≤ j ∧ j < p + 1 + r
      · rw [if_pos h2, if_pos (by omega)]
      · rw [if_neg h2]
        simp [e]
        intro h3 h4
        exfalso
        omega
  · simp [zeroed, hj]
theorem chg_setCells (g : Nat) : ∀ (vs : List Value) (o : Nat) (w : World), Chg (fun j => j = g) w (w.setCells g o vs)
  | [], _, w => Chg.refl _ w
  | v :: vs, o, w => ((Chg.refl (fun j => j = g) w).setCell (p := ⟨g, o, none⟩) (.inl rfl) v).trans (chg_setCells g vs (o + 1) _) (fun _ _ h => h)
theorem OwnC.zero {base g n c : Nat} : ∀ (r p : Nat) (w : World) (xs : List (Nat × Nat)), OwnC w base (.slice (some ⟨g, 0, none⟩) n c) xs → p + r ≤ xs.length → OwnC (w.setCells g p (List.replicate r (cx (0, 0)))) base (.slice (some ⟨g, 0, none⟩) n c) (zeroed xs p r)
  | 0, p, w, xs, h, _ => by rw [zeroed_zero]; exact h
  | r + 1, p, w, xs, h, hr => by
    rw [← zeroed_cons]
    exact OwnC.zero r (p + 1) _ _ (h.put p (by omega) (0, 0)) (by rw [List.length_set]; omega)

theorem lend_up (w : World) (base b : Nat) (s v : Value) (ls : List Ls) (x : Ls) (q1 q2 q3 : Int) (hv : OwnL w base v ls) (hbx : w.heap[b]? = some (.cells #[s, v] 67 (0, 0))) (hb : base ≤ w.heap.size) (m16 : ls.length ≤ 16) (h1 : q1 = (x.st : Int)) (h2 : q2 = (x.ct : Int)) (h3 : q3 = (x.rm : Int)) (h4 : x.fr = false) :
    Calls Try.prog 127 #[.pointer (some ⟨b, 0, none⟩), .agg #[.int .i64 q1, .int .i64 q2, .int .i64 q3, .bool false]] w (RLend w base b s (putO ls x)) := by
  subst h1 h2 h3
  rw [← h4]
  exact lend_calls w base b s v ls x hv hbx hb m16

set_option maxRecDepth 100000 in
set_option maxHeartbeats 4000000 in
theorem LendRoom_calls (w : World) (s v : Value) (xs : List (Nat × Nat)) (ls : List Ls) (room : Nat) (ho : OwnC w 0 s xs) (hv : OwnL w 0 v ls) (hp : POk xs.length ls) (hr : 1 ≤ room) (hr2 : room ≤ 1000) :
    Calls Try.prog 74 #[.agg #[s, v], .int .i64 (room : Int)] w (RPk w (lendP xs ls room)) := by
  obtain ⟨a, c, rfl⟩ := ho.form
  obtain ⟨a2, c2, rfl⟩ := hv.form
  have n256 := hp.nle
  have m16 := hp.len
  have A1 := ((Chg.refl (fun _ => False) w).alloc (.cells #[.slice a xs.length c, .slice a2 ls.length c2] 67)).alloc (.cells #[.slice none 0 0, .slice none 0 0] 67)
  have HO := hid (ho.chg A1 fun _ _ _ h => h)
  have HV := hid (hv.chg A1 fun _ _ _ h => h)
  have R0 := hid (show ((w.alloc (.cells #[.slice a xs.length c, .slice a2 ls.length c2] 67)).alloc (.cells #[.slice none 0 0, .slice none 0 0] 67)).heap[w.heap.size]? = _ from heap_old (heap_new w _))
  have R1 := hid (show ((w.alloc (.cells #[.slice a xs.length c, .slice a2 ls.length c2] 67)).alloc (.cells #[.slice none 0 0, .slice none 0 0] 67)).heap[w.heap.size + 1]? = _ from heap_new' (w := w.alloc _) (b := w.heap.size + 1) (by simp))
  have Z1 := hid (show ((w.alloc (.cells #[.slice a xs.length c, .slice a2 ls.length c2] 67)).alloc (.cells #[.slice none 0 0, .slice none 0 0] 67)).heap.size = w.heap.size + 2 by simp)
  have GA := hid A1
  have HP := hid hp
  have hIs := hid (fun w ho hv => IsPool_calls w (.slice a xs.length c) (.slice a2 ls.length c2) xs ls ho hv hp)
  have hTk := hid (fun w ho hv => taken_calls w (.slice a xs.length c) (.slice a2 ls.length c2) xs ls ho hv hp)
  have r1 : decide ((room : Int) < 1) = false := by simp; omega
  have hCp := hid (fun w ho hv => copyPool_calls w (.slice a xs.length c) (.slice a2 ls.length c2) xs ls ho hv (by omega) (by omega))
  clear A1 ho hv hp
  generalize hn : xs.length = n at *
  generalize hm : ls.length = m at *
  have HN := hid hn
  have HM := hid hm
  clear hn hm
  go_enter Try.func74, Try.ntmps74
  have kR0i := cells_at R0.out
  go_wp2_with (go_at_call 106; refine (hIs.out _ HO.out HV.out).mono ?_; rintro e w1 ⟨rfl, hG⟩; have R0b := hid (hG.heap R0.out (fun h => h)); have kR0b := cells_at R0b.out; have HO1 := hid (HO.out.chg hG fun _ _ _ h => h); have HV1 := hid (HV.out.chg hG fun _ _ _ h => h); have G1 := hid hG)
  refine (hTk.out _ HO1.out HV1.out).mono ?_
  rintro e w2 ⟨b, cb, rfl, hT, hG2⟩
  have HT := hid hT
  have R0c := hid (hG2.heap R0b.out (fun h => h))
  have R1c := hid (hG2.heap (G1.out.heap R1.out (fun h => h)) (fun h => h))
  have HOc := hid (HO1.out.chg hG2 fun _ _ _ h => h)
  have HVc := hid (HV1.out.chg hG2 fun _ _ _ h => h)
  have z2 : w.heap.size + 2 ≤ w2.heap.size := by have := Z1.out; have := G1.out.size; have := hG2.size; omega
  have GW := hid ((GA.out.trans G1.out fun _ _ h => h).trans hG2 fun _ _ h => h)
  clear hT hG2 R0b kR0b HO1 HV1 G1 Z1 GA hG hIs hTk R0 R1 HO HV kR0i
  have kR0 := cells_at R0c.out
  have kR1 := cells_at R1c.out
  have fR1 := frees_at R1c.out
  have run0 := hid (show runTo (cv ls) 0 < room from Nat.lt_of_lt_of_le Nat.zero_lt_one hr)
  go_wp2_with fail
  go_loopw [7, 24] (fun q i wr => ∃ (k : Nat), k ≤ n ∧ i = .int .i64 (k : Int) ∧ q = .int .i64 ((runTo (cv ls) k : Nat) : Int) ∧ Hid (∀ j, j ≤ k → runTo (cv ls) j < room) ∧ wr = w2) (fun _ i _ => n - (intOf i).toNat)
  case atStart => exact ⟨0, by omega, rfl, rfl, hid (fun j hj => by have e : j = 0 := (by omega); rw [e]; exact run0.out), rfl⟩
  case round =>
    obtain ⟨k, hk, rfl, rfl, HF, rfl⟩ := hrel
    obtain ⟨wo, rfl⟩ : ∃ wo : World, wo = wr := ⟨_, rfl⟩
    by_cases hlt : k < n
    · have hlt' : (k : Int) < (n : Int) := by omega
      obtain ⟨g, cc, cur, hv2, hg0, hg1, hgc, hgh, z, hz, hcz⟩ := OwnT.get HT.out (tb_len n _) hlt
      simp at hv2
      obtain ⟨rfl, rfl⟩ := hv2
      rw [tb_get n _ hlt] at hz
      obtain rfl := Option.some.inj hz
      have hrl := runTo_le (cv ls) k
      have hlast := HF.out k (Nat.le_refl k)
      cases hc : cv ls k
      · have hrn : runTo (cv ls) (k + 1) = runTo (cv ls) k + 1 := by
          show (if cv ls k then 0 else runTo (cv ls) k + 1) = _
          rw [hc]
          simp
        have HRN := hid hrn
        rw [hc] at hcz
        clear hz hgh hrn hc
        generalize hq : runTo (cv ls) k = q at *
        have HQ := hid hq
        clear hq
        by_cases hrm : q + 1 = room
        · have hrm' : ¬ (q : Int) + 1 < (room : Int) := by omega
          have HA := hid (firstAt_some (fun i => decide (room ≤ runTo (cv ls) (i + 1))) n k hlt (by simp [HRN.out, hrm]) (fun i hi => by have := HF.out (i + 1) (by omega); simp; omega))
          go_wp2_with fail
          refine (hCp.out _ HOc.out HVc.out).mono ?_
          rintro e w3 ⟨a3, c3, a4, c4, rfl, hO3, hV3, hG3⟩
          rw [HN.out] at hO3
          rw [HM.out] at hV3
          rw [HN.out, HM.out]
          have zz3 := hG3.size
          have A4 := (Chg.refl (fun _ => False) w3).alloc (.cells #[.slice a3 n c3, .slice a4 m c4] 67)
          have R0d := hid (A4.heap (hG3.heap R0c.out (fun h => h)) (fun h => h))
          have R1d := hid (A4.heap (hG3.heap R1c.out (fun h => h)) (fun h => h))
          have R5 := hid (heap_new w3 (.cells #[.slice a3 n c3, .slice a4 m c4] 67))
          have HO4 := hid (hO3.chg A4 fun _ _ _ h => h)
          have HV4 := hid (hV3.chg A4 fun _ _ _ h => h)
          have HB3 := hid (fun g (h : some g = (Value.slice a3 n c3).ownBlock) => hO3.own_lt h)
          have HB4 := hid (fun g (h : some g = (Value.slice a4 m c4).ownBlock) => hV3.own_lt h)
          have GW4 := hid ((GW.out.trans hG3 fun _ _ h => h).trans A4 fun _ _ h => h)
          have z5 : w3.heap.size < (w3.alloc (.cells #[.slice a3 n c3, .slice a4 m c4] 67)).heap.size := by simp
          clear A4 hG3 hO3 hV3

          have z5' := z5
          go_wp2_with fail
          generalize hw4 : w3.alloc (.cells #[.slice a3 n c3, .slice a4 m c4] 67) = w4 at *
          obtain ⟨pp, hpp⟩ : ∃ pp, pp + room = k + 1 := ⟨k + 1 - room, by omega⟩
          have hst : k + 1 - room = pp := by omega
          have HST := hid hst
          clear hst hw4
          have hup := fun q1 q2 q3 e1 e2 e3 => lend_up w4 wo.heap.size w3.heap.size (.slice a3 n c3) (.slice a4 m c4) ls (lendX k room) q1 q2 q3 HV4.out R5.out (by omega) (by rw [HM.out]; exact m16) e1 e2 e3 rfl
          refine (hup _ _ _ (by show (k : Int) + 1 - (room : Int) = ((k + 1 - room : Nat) : Int); omega) rfl rfl).mono ?_
          rintro e w5 ⟨hG5, a5, c5, rfl, hV5, hB5⟩
          have HLP : Hid (lendP xs ls room = if (putO ls (lendX k room)).1.length ≤ 16 then some (zeroed xs pp room, (putO ls (lendX k room)).1, (putO ls (lendX k room)).2) else none) := by
            show lendP xs ls room = _
            unfold lendP runAt
            rw [HN.out, HA.out]
            show (putL ls (lendX k room)).map (fun q => (zeroed xs (k + 1 - room) room, q.1, q.2)) = _
            rw [HST.out, putL_putO _ (by rw [HM.out]; exact m16)]
            split <;> rfl
          clear hup
          generalize putO ls (lendX k room) = r at *
          have z6 := hG5.size
          have Q1 := hid (hG5.heap R1d.out (fun e => by rcases e with ⟨h, _⟩ | h <;> omega))
          have kQ1 := cells_at Q1.out
          have fQ1 := frees_at Q1.out
          have O5 := hid (HO4.out.chgN hG5 (fun g e1 e2 => by
            rcases e2 with ⟨_, cs, f, h⟩ | h
            · exact apartTC HO4.out h (by decide) e1
            · have := (HB3.out g e1).2; omega))
          have QG := hid (GW4.out.trans hG5 (fun j hj e => by rcases e with ⟨h, _⟩ | h <;> omega))
          have V5 := hid hV5
          have B5 := hid hB5
          have kB5 := cells_at B5.out
          clear hG5 hV5 hB5 HV4 HO4 R5 R0d R1d GW4
          by_cases h16 : r.1.length ≤ 16
          · have d16 : decide (r.1.length ≤ 16) = true := by simpa using h16
            have HLP2 := hid (HLP.out.trans (if_pos h16))
            rw [d16]
            clear h16 d16 HLP
            obtain ⟨g3, cc3, cur3, hv3, hg30, hg31, hgc3, hgh3, hcl3⟩ := O5.out.at2 (n := n) HN.out (by omega)
            simp at hv3
            obtain ⟨rfl, rfl⟩ := hv3
            have fg := frees_at hgh3
            have HB3g := HB3.out g3 rfl
            have w1 : (k : Int) + 1 - (room : Int) = (pp : Int) := by omega
            have s1 : (pp : Int) ≤ (k : Int) + 1 := by omega
            have s2 : (k : Int) + 1 ≤ (c3 : Int) := by omega
            have s3 : pp < c3 := by omega
            have fr0 : ∀ j, j < k + 1 - pp → w5.frozen? ⟨g3, pp + j, none⟩ = false := fun j _ => fg _
            have is0 : ∀ j, j < k + 1 - pp → (w5.cell? ⟨g3, pp + j, none⟩).isSome = true := fun j hj => by rw [cell_at hgh3, hcl3 _ (by omega)]; rfl
            have hcl := fun ty => Lib.run_clear_slice (P := Try.prog) w5 25 33 ty (cx (0, 0)) Try.underlying25 (fun _ => rfl) rfl rfl g3 pp (k + 1 - pp) (c3 - pp) (by omega) is0 fr0
            clear is0 fr0 fg hgh3 hcl3
            go_upto_region 16 with fail
            have hroom : k + 1 - pp = room := by omega
            have CZ := chg_setCells g3 (List.replicate (k + 1 - pp) (cx (0, 0))) pp w5
            have OZ' := OwnC.zero (k + 1 - pp) pp w5 xs O5.out (by have := HN.out; omega)
            rw [hroom] at CZ OZ' ⊢
            have OZ := hid OZ'
            have VZ := hid (V5.out.chgN CZ (fun g e1 e2 => by subst e2; exact apartC (by decide) O5.out V5.out rfl e1))
            have BZ := hid (CZ.heap B5.out (by omega))
            have QZ := hid (CZ.heap Q1.out (by omega))
            have GZ := hid (QG.out.trans CZ (fun j hj (e : j = g3) => by omega))
            clear CZ OZ' hroom kB5 kQ1 fQ1 hcl
            generalize w5.setCells g3 pp (List.replicate room (cx (0, 0))) = w6 at *
            have kB6 := cells_at BZ.out
            have kQ6 := cells_at QZ.out
            have fQ6 := frees_at QZ.out
            go_wp2_with fail
            refine bodyPost_ret (row_cell_tmp2 (by rfl) _ _ _ (w.heap.size + 1) _ (.int .i64 (r.2 : Int)) (.bool true) rfl (load_pool (heap_row2 QZ.out _ _) rfl) rfl rfl) rfl ⟨?_, ?_⟩
            · exact GZ.out.trans (chg_row2 _ (w.heap.size + 1) (.slice (some ⟨g3, 0, none⟩) n c3) (.slice a5 r.1.length c5)) (fun j hj (h : j = w.heap.size + 1) => by omega)
            · rw [HLP2.out]
              have CR := chg_row2 w6 (w.heap.size + 1) (.slice (some ⟨g3, 0, none⟩) n c3) (.slice a5 r.1.length c5)
              have o1 := OZ.out.chgN CR (fun g e1 (e2 : g = w.heap.size + 1) => by have := (HB3.out _ e1).1; omega)
              have o2 := OwnR.chgN VZ.out CR (fun g e1 (e2 : g = w.heap.size + 1) => by subst e2; exact apartT VZ.out QZ.out (by decide) e1)
              exact ⟨some ⟨g3, 0, none⟩, c3, a5, c5, by simp [zeroed_len, HN.out], by simpa [zeroed_len, HN.out] using o1.mono (by omega), OwnR.mono o2 (by omega)⟩
          · have d16 : decide (r.1.length ≤ 16) = false := by simpa using h16
            have HLP2 := hid (HLP.out.trans (if_neg h16))
            rw [d16]
            clear h16 d16 HLP
            go_wp2_with fail
            refine bodyPost_ret (row_cell_tmp2 (by rfl) _ _ _ (w.heap.size + 1) _ (.int .i64 0) (.bool false) rfl (load_pool (heap_row2 Q1.out _ _) rfl) rfl rfl) rfl ⟨?_, ?_⟩
            · exact QG.out.trans (chg_row2 _ (w.heap.size + 1) (.slice none 0 0) (.slice none 0 0)) (fun j hj (h : j = w.heap.size + 1) => by omega)
            · rw [HLP2.out]
        · have hrm' : (q : Int) + 1 < (room : Int) := by omega
          have HF2 := hid (fun j (hj : j ≤ k + 1) => show runTo (cv ls) j < room by
            rcases (by omega : j ≤ k ∨ j = k + 1) with h | rfl
            · exact HF.out j h
            · rw [HRN.out]; omega)
          --DEV sorry
          go_wp2_with fail
          go_roundw
          case rel => exact ⟨k + 1, by omega, by go_num, by rw [HRN.out]; go_num, HF2, trivial⟩
          case measure => simp [intOf]; omega
          --END
      · have hrn : runTo (cv ls) (k + 1) = 0 := by
          show (if cv ls k then 0 else runTo (cv ls) k + 1) = _
          rw [hc]
          simp
        have HRN := hid hrn
        rw [hc] at hcz
        clear hz hgh hrn hc
        have hrm' : (0 : Int) < (room : Int) := by omega
        have HF2 := hid (fun j (hj : j ≤ k + 1) => show runTo (cv ls) j < room by
            rcases (by omega : j ≤ k ∨ j = k + 1) with h | rfl
            · exact HF.out j h
            · rw [HRN.out]; omega)
        --DEV sorry
        go_wp2_with fail
        go_roundw
        case rel => exact ⟨k + 1, by omega, by go_num, by rw [HRN.out]; rfl, HF2, trivial⟩
        case measure => simp [intOf]; omega
        --END
    · obtain rfl : k = n := by omega
      have hlt' : ¬ (k : Int) < (k : Int) := by omega
      have hno : lendP xs ls room = none := by
        unfold lendP runAt
        rw [HN.out, firstAt_none _ k fun i hi => by have := HF.out (i + 1) (by omega); simp; omega]
      have HNo := hid hno
      clear hno
      --DEV sorry
      go_wp2_with fail
      refine bodyPost_ret (row_cell_tmp2 (by rfl) _ _ _ (w.heap.size + 1) _ (.int .i64 0) (.bool false) rfl (load_pool (heap_row2 R1c.out _ _) rfl) rfl rfl) rfl ⟨?_, ?_⟩
      · exact GW.out.trans (chg_row2 _ (w.heap.size + 1) (.slice none 0 0) (.slice none 0 0)) (fun j hj (h : j = w.heap.size + 1) => by omega)
      · rw [HNo.out]
      --END
end Go.Proofs.Ytopkehknaclhlaa
