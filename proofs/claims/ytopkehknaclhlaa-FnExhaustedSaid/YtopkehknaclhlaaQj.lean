/- The walk of FnExhausted. No condition. (Printed by gen_qj.py.) -/
import Derived.Test.YtopkehknaclhlaaQi
import Derived.Test.YtopkehknaclhlaaQe
import Derived.Test.YtopkehknaclhlaaQh
import Derived.Test.YtopkehknaclhlaaWh
namespace Go.Proofs.Ytopkehknaclhlaa
open Go Go.RowKit

set_option maxRecDepth 100000 in
set_option maxHeartbeats 4000000 in
theorem walkFnExhausted (w : World) (a : Option Addr) (len cap : Nat) (h0 : Bytes0 w w.heap.size a len cap) :
    Calls Try.prog 19 #[.slice a len cap] w (LawPost w) := by
  by_cases hbig : len ≤ 1048576
  · have HY := hid (show Bytes w w.heap.size a len cap from ⟨h0.1, hbig, h0.2.2⟩)
    clear h0
    have hb1 : ¬ (1048576 : Int) < (len : Int) := by omega
    go_enter Try.func19, Try.ntmps19
    go_wp2_with fail
    refine (MakePool_calls _ _ _ _ HY.out).mono ?_
    rintro e w1 ⟨xs, ls, a1, c1, a2, c2, rfl, hp, hO, hV, hG⟩
    have HO := hid (hO.mono (Nat.zero_le _))
    have HV := hid (OwnR.mono hV (Nat.zero_le _))
    replace HY := hid (HY.out.chg hG fun _ _ h => h)
    have HG := hid hG
    have zb3 := hG.size
    clear hO hV hG
    have A1 := (Chg.refl (fun _ => False) w1).alloc (.cells #[.slice a1 xs.length c1, .slice a2 ls.length c2] 67)
    have R3 := hid (heap_new w1 (.cells #[.slice a1 xs.length c1, .slice a2 ls.length c2] 67))
    replace HO := hid (HO.out.chg A1 fun _ _ _ h => h)
    replace HV := hid (HV.out.chg A1 fun _ _ _ h => h)
    replace HY := hid (HY.out.chg A1 fun _ _ h => h)
    replace HG := hid (HG.out.trans A1 fun _ _ h => h)
    clear A1
    go_upto_region 4 with fail
    generalize w1.alloc (.cells #[.slice a1 xs.length c1, .slice a2 ls.length c2] 67) = w2 at *
    generalize w1.heap.size = b3 at *
    go_wp2_with fail
    refine (at_calls _ _ _ _ (by obtain ⟨h1, h2, h3⟩ := HY.out; exact ⟨h1, h2, fun k hk => by obtain ⟨b, off, z, h4, h5, h6⟩ := h3 k hk; exact ⟨b, off, z, h4, by have := HG.out.size; omega, h6⟩⟩) 1 (by omega)).mono ?_
    rintro e w2' ⟨x1, hx1, rfl, hw⟩
    rw [← hw]
    clear hw w2'
    go_upto_region 5 with fail
    obtain ⟨room, hroom⟩ : ∃ room : Nat, (room : Int) = 1 + (x1 : Int) % 20 := ⟨1 + x1 % 20, by omega⟩
    rw [← hroom]
    have hr1 : 1 ≤ room := by omega
    have hr9 : room ≤ 1000 := by omega
    clear hroom hx1 HY
    obtain ⟨xs0, hxs0⟩ : ∃ n0, n0 = xs.length := ⟨_, rfl⟩
    have HP := hid hp
    clear hp
    go_wp2_with fail
    go_loopw [5] (fun i wx => ∃ (k : Nat), i = .int .i64 (k : Int) ∧ ∃ xs ls a1 c1 a2 c2, k ≤ live ls ∧ POk xs.length ls ∧ Hid (wx.heap[b3]? = some (.cells #[.slice a1 xs.length c1, .slice a2 ls.length c2] 67 (0, 0))) ∧ Hid (OwnC wx 0 (.slice a1 xs.length c1) xs) ∧ Hid (OwnL wx 0 (.slice a2 ls.length c2) ls) ∧ Hid (Chg (fun _ => False) w wx)) (fun i _ => 17 - (intOf i).toNat)
    case atStart => exact ⟨0, rfl, xs, ls, a1, c1, a2, c2, Nat.zero_le _, HP.out, R3, HO, HV, HG⟩
    case round =>
      clear R3 HO HV HG HP hxs0 xs0
      obtain ⟨k, rfl, xs, ls, a1, c1, a2, c2, hkl, hp, R3, HO, HV, HG⟩ := hrel
      obtain ⟨wo, rfl⟩ : ∃ wo : World, wo = wr := ⟨_, rfl⟩
      have hl16 := hp.len
      have hlv := live_le ls
      have n256 := hp.nle
      have HP := hid hp
      have kR3 := cells_at R3.out
      have hk16 : (k : Int) ≤ 16 := by omega
      have hLI := LendRoom_calls wo (.slice a1 xs.length c1) (.slice a2 ls.length c2) xs ls room HO.out HV.out hp hr1 hr9
      cases hL : lendP xs ls room with
      | some r =>
        have hlr := lend_live hL
        obtain ⟨hok, hlen⟩ := lendP_ok hp hr1 hL
        rw [hL] at hLI
        have HLI := hid hLI
        clear hLI hL hp hlen
        obtain ⟨xs1, ls1, id1⟩ := r
        dsimp only at hlr hok HLI
        go_wp2_with fail
        refine HLI.out.mono ?_
        rintro e w4 ⟨hG, a4, c4, b4, d4, he, hO1, hV1⟩
        dsimp only at he hO1 hV1
        subst he
        have HO6 := hid (hO1.mono (Nat.zero_le _))
        have HV6 := hid (OwnR.mono hV1 (Nat.zero_le _))
        replace HO := hid (HO.out.chg hG fun _ _ _ h => h)
        replace HV := hid (HV.out.chg hG fun _ _ _ h => h)
        replace R3 := hid (hG.heap R3.out (fun h => h))
        replace HG := hid (HG.out.trans hG fun _ _ h => h)
        clear hG kR3 hO1 hV1 HLI
        have A1 := (Chg.refl (fun _ => False) w4).alloc (.cells #[.slice a4 xs1.length c4, .slice b4 ls1.length d4] 67)
        have R6 := hid (heap_new w4 (.cells #[.slice a4 xs1.length c4, .slice b4 ls1.length d4] 67))
        replace HO := hid (HO.out.chg A1 fun _ _ _ h => h)
        replace HV := hid (HV.out.chg A1 fun _ _ _ h => h)
        replace R3 := hid (A1.heap R3.out (fun h => h))
        replace HG := hid (HG.out.trans A1 fun _ _ h => h)
        replace HO6 := hid (HO6.out.chg A1 fun _ _ _ h => h)
        replace HV6 := hid (HV6.out.chg A1 fun _ _ _ h => h)
        clear A1
        go_upto_region 9 with fail
        generalize w4.alloc (.cells #[.slice a4 xs1.length c4, .slice b4 ls1.length d4] 67) = w5 at *
        generalize w4.heap.size = b6 at *
        have kR6 := cells_at R6.out
        have kR3 := cells_at R3.out
        have fR3 := frees_at R3.out
        go_wp2_with fail
        have CR := chg_row2 w5 b3 (.slice a4 xs1.length c4) (.slice b4 ls1.length d4)
        go_roundw
        case rel =>
          refine ⟨k + 1, by go_num, xs1, ls1, a4, c4, b4, d4, by omega, hok, hid (heap_row2 R3.out _ _), hid (HO6.out.chgN CR fun g e1 e2 => ?_), hid (OwnR.chgN HV6.out CR fun g e1 e2 => ?_), hid (HG.out.trans CR fun j hj (e : j = b3) => by omega)⟩
          · subst e2; exact apartTC HO6.out R3.out (by decide) e1
          · subst e2; exact apartT HV6.out R3.out (by decide) e1
        case measure => simp [intOf]; omega
      | none =>
        have hno := hid (lend_none hr1 hL)
        rw [hL] at hLI
        have HLI := hid hLI
        clear hLI hL
        go_wp2_with fail
        refine HLI.out.mono ?_
        rintro e w4 ⟨hG, rfl⟩
        replace HO := hid (HO.out.chg hG fun _ _ _ h => h)
        replace HV := hid (HV.out.chg hG fun _ _ _ h => h)
        replace R3 := hid (hG.heap R3.out (fun h => h))
        replace HG := hid (HG.out.trans hG fun _ _ h => h)
        clear hG kR3 HLI
        have A1 := (Chg.refl (fun _ => False) w4).alloc (.cells #[.slice none 0 0, .slice none 0 0] 67)
        replace HO := hid (HO.out.chg A1 fun _ _ _ h => h)
        replace HV := hid (HV.out.chg A1 fun _ _ _ h => h)
        replace R3 := hid (A1.heap R3.out (fun h => h))
        replace HG := hid (HG.out.trans A1 fun _ _ h => h)
        clear A1
        go_upto_region 9 with fail
        generalize w4.alloc (.cells #[.slice none 0 0, .slice none 0 0] 67) = w5 at *
        have kR3 := cells_at R3.out
        go_wp2_with fail
        have zw5 : b3 < w5.heap.size := heap_lt R3.out
        go_loopw [9, 45] (fun x i wx => ∃ (j : Nat), j ≤ ls.length ∧ i = .int .i64 (j : Int) ∧ x = .int .i64 ((live (ls.take j) : Nat) : Int) ∧ Hid (Chg (fun _ => False) w5 wx)) (fun _ i _ => ls.length - (intOf i).toNat)
        case atStart => exact ⟨0, Nat.zero_le _, rfl, rfl, hid (Chg.refl _ _)⟩
        case round =>
          obtain ⟨j, hj, rfl, rfl, GR⟩ := hrel
          obtain ⟨wp, rfl⟩ : ∃ wp : World, wp = wr := ⟨_, rfl⟩
          clear kR3
          by_cases hlt : j < ls.length
          · have hlt' : (j : Int) < (ls.length : Int) := by omega
            have HVw := hid (HV.out.chg GR.out fun _ _ _ h => h)
            obtain ⟨g, cc, cur, hv2, hg0, hg1, hgc, hgh, l, hlk, j0, j1, j2, j3⟩ := OwnL.lease HVw.out rfl hlt
            simp at hv2
            obtain ⟨rfl, rfl⟩ := hv2
            have HLT := hid (live_take ls j l hlk)
            have hlj : live (ls.take j) ≤ 16 := by have := live_le (ls.take j); rw [List.length_take] at this; omega
            clear hlk hgh
            generalize l.st = p at *
            generalize l.ct = q at *
            generalize l.rm = r at *
            cases hf : l.fr
            all_goals
              rw [hf] at j3 HLT
              clear hf
              go_wp2_with fail
              go_roundw
              case rel => exact ⟨j + 1, by omega, by go_num, by rw [HLT.out]; first | rfl | go_num, hid (GR.out.alloc _)⟩
              case measure => simp [intOf]; omega
          · obtain rfl : j = ls.length := by omega
            have hlt' : ¬ (ls.length : Int) < (ls.length : Int) := by omega
            rw [List.take_length]
            have hG := GR.out
            replace HO := hid (HO.out.chg hG fun _ _ _ h => h)
            replace HV := hid (HV.out.chg hG fun _ _ _ h => h)
            replace R3 := hid (hG.heap R3.out (fun h => h))
            replace HG := hid (HG.out.trans hG fun _ _ h => h)
            clear hG GR
            have kR3 := cells_at R3.out
            have hno2 := hno.out
            clear hno
            have hlvl : live ls ≤ 16 := by omega
            have hFR := FreeRoom_calls wp (.slice a1 xs.length c1) (.slice a2 ls.length c2) xs ls HO.out HV.out hp
            generalize best (cv ls) xs.length = bst at *
            have HFR := hid hFR
            clear hFR
            generalize live ls = lv at *
            go_wp2_with fail
            refine HFR.out.mono ?_
            rintro e w6 ⟨rfl, hG⟩
            replace HO := hid (HO.out.chg hG fun _ _ _ h => h)
            replace HV := hid (HV.out.chg hG fun _ _ _ h => h)
            replace R3 := hid (hG.heap R3.out (fun h => h))
            replace HG := hid (HG.out.trans hG fun _ _ h => h)
            clear hG kR3 HFR
            have kR3 := cells_at R3.out
            have hIP := hid (IsPoolS_calls w6 (.slice a1 xs.length c1) (.slice a2 ls.length c2) xs ls HO.out HV.out hp)
            by_cases hbr : bst < room
            · have g1 : decide ((room : Int) ≤ (bst : Int)) = false := by simp; omega
              have g2 : ¬ ((room : Int) ≤ (bst : Int)) := by omega
              have g3 : (bst : Int) < (room : Int) := by omega
              go_wp2_with fail
              refine hIP.out.mono ?_
              rintro e w7 ⟨rfl, hG⟩
              replace HO := hid (HO.out.chg hG fun _ _ _ h => h)
              replace HV := hid (HV.out.chg hG fun _ _ _ h => h)
              replace R3 := hid (hG.heap R3.out (fun h => h))
              replace HG := hid (HG.out.trans hG fun _ _ h => h)
              clear hG kR3 hIP
              have kR3 := cells_at R3.out
              go_wp2_with fail
              clear g1 g2 g3
              obtain ⟨M, hM⟩ : ∃ M, M = ls.length := ⟨_, rfl⟩
              have HM := hid hM.symm
              rw [← hM]
              have hM16 : M ≤ 16 := by omega
              clear hM
              go_loopw [75] (fun i wx => ∃ (j : Nat), j ≤ M ∧ i = .int .i64 (j : Int) ∧ ∃ xs ls a1 c1 a2 c2, Hid (ls.length = M) ∧ Hid (∀ (q : Nat) (l : Ls), q < j → ls[q]? = some l → l.fr = true) ∧ POk xs.length ls ∧ Hid (wx.heap[b3]? = some (.cells #[.slice a1 xs.length c1, .slice a2 ls.length c2] 67 (0, 0))) ∧ Hid (OwnC wx 0 (.slice a1 xs.length c1) xs) ∧ Hid (OwnL wx 0 (.slice a2 ls.length c2) ls) ∧ Hid (Chg (fun _ => False) w wx)) (fun i _ => M - (intOf i).toNat)
              case atStart => exact ⟨0, Nat.zero_le _, rfl, xs, ls, a1, c1, a2, c2, HM, hid (fun q l h => by omega), hp, R3, HO, HV, HG⟩
              case round =>
                clear R3 HO HV HG HP HM kR3 hp hl16 hlv hkl n256
                obtain ⟨j, hj, rfl, xs, ls, a1, c1, a2, c2, HM, HF, hp, R3, HO, HV, HG⟩ := hrel
                obtain ⟨wq, rfl⟩ : ∃ wq : World, wq = wr := ⟨_, rfl⟩
                have kR3 := cells_at R3.out
                have n256 := hp.nle
                by_cases hlt : j < M
                · have hlt' : (j : Int) < (M : Int) := by omega
                  have hlt2 : j < ls.length := by have := HM.out; omega
                  have hlt3 : (j : Int) < (ls.length : Int) := by omega
                  obtain ⟨g, cc, cur, hv2, hg0, hg1, hgc, hgh, l, hlk, j0, j1, j2, j3⟩ := OwnL.lease HV.out rfl hlt2
                  simp at hv2
                  obtain ⟨rfl, rfl⟩ := hv2
                  have HLK := hid hlk
                  clear hlk hgh
                  cases hf : l.fr
                  · rw [hf] at j3
                    have hle : lentB ls j = true := by rw [lentB_some HLK.out, hf]; rfl
                    have hgv : giveP xs ls j = some (xs, ls.set j Ls.free) := by unfold giveP; rw [hle]; rfl
                    have hok := (giveP_ok hp hgv).1
                    have HF2 := hid (fun (q : Nat) (m : Ls) (hq : q < j + 1) (hm : (ls.set j Ls.free)[q]? = some m) => show m.fr = true by
                      rw [List.getElem?_set] at hm
                      by_cases e : j = q
                      · rw [if_pos e, if_pos (by omega)] at hm
                        obtain rfl := Option.some.inj hm
                        rfl
                      · rw [if_neg e] at hm
                        exact HF.out q m (by omega) hm)
                    have hGB := GiveBack_calls wq (.slice a1 xs.length c1) (.slice (some ⟨g, 0, none⟩) ls.length c2) xs ls j HO.out HV.out hp
                    rw [hgv] at hGB
                    dsimp only at hok
                    have HL2 := hid (show (ls.set j Ls.free).length = M by rw [List.length_set]; exact HM.out)
                    have nb : (((ls.set j Ls.free).length : Int) != (ls.length : Int)) = false := by rw [List.length_set]; simp
                    generalize ls.set j Ls.free = ls2 at *
                    have HGB := hid hGB
                    clear hGB hf hle hgv
                    go_wp2_with fail
                    refine HGB.out.mono ?_
                    rintro e w8 ⟨hG, a8, c8, b8, d8, he, hO1, hV1⟩
                    dsimp only at he hO1 hV1
                    subst he
                    have HO6 := hid (hO1.mono (Nat.zero_le _))
                    have HV6 := hid (OwnR.mono hV1 (Nat.zero_le _))
                    replace HO := hid (HO.out.chg hG fun _ _ _ h => h)
                    replace HV := hid (HV.out.chg hG fun _ _ _ h => h)
                    replace R3 := hid (hG.heap R3.out (fun h => h))
                    replace HG := hid (HG.out.trans hG fun _ _ h => h)
                    clear hG hO1 hV1 HGB kR3
                    have A1 := (Chg.refl (fun _ => False) w8).alloc (.cells #[.slice a8 xs.length c8, .slice b8 ls2.length d8] 67)
                    have R6 := hid (heap_new w8 (.cells #[.slice a8 xs.length c8, .slice b8 ls2.length d8] 67))
                    replace HO := hid (HO.out.chg A1 fun _ _ _ h => h)
                    replace HV := hid (HV.out.chg A1 fun _ _ _ h => h)
                    replace R3 := hid (A1.heap R3.out (fun h => h))
                    replace HG := hid (HG.out.trans A1 fun _ _ h => h)
                    replace HO6 := hid (HO6.out.chg A1 fun _ _ _ h => h)
                    replace HV6 := hid (HV6.out.chg A1 fun _ _ _ h => h)
                    clear A1
                    go_upto_region 26 with fail
                    generalize w8.alloc (.cells #[.slice a8 xs.length c8, .slice b8 ls2.length d8] 67) = w9 at *
                    generalize w8.heap.size = b15 at *
                    have kR6 := cells_at R6.out
                    have kR3 := cells_at R3.out
                    have fR3 := frees_at R3.out
                    go_wp2_with fail
                    have CR := chg_row2 w9 b3 (.slice a8 xs.length c8) (.slice b8 ls2.length d8)
                    go_roundw
                    case rel =>
                      refine ⟨j + 1, by omega, by go_num, xs, ls2, a8, c8, b8, d8, HL2, HF2, hok, hid (heap_row2 R3.out _ _), hid (HO6.out.chgN CR fun g e1 e2 => ?_), hid (OwnR.chgN HV6.out CR fun g e1 e2 => ?_), hid (HG.out.trans CR fun j hj (e : j = b3) => by omega)⟩
                      · subst e2; exact apartTC HO6.out R3.out (by decide) e1
                      · subst e2; exact apartT HV6.out R3.out (by decide) e1
                    case measure => simp [intOf]; omega
                  · rw [hf] at j3
                    have HF2 := hid (fun (q : Nat) (m : Ls) (hq : q < j + 1) (hm : ls[q]? = some m) => show m.fr = true by
                      rcases (by omega : q < j ∨ q = j) with h | rfl
                      · exact HF.out q m h hm
                      · rw [HLK.out] at hm
                        obtain rfl := Option.some.inj hm
                        exact hf)
                    clear hf
                    go_wp2_with fail
                    go_roundw
                    case rel => exact ⟨j + 1, by omega, by go_num, xs, ls, a1, c1, some ⟨g, 0, none⟩, c2, HM, HF2, hp, R3, HO, HV, HG⟩
                    case measure => simp [intOf]; omega
                · obtain rfl : j = M := by omega
                  have hlt' : ¬ (j : Int) < (j : Int) := by omega
                  have hall : ∀ (q : Nat) (l : Ls), ls[q]? = some l → l.fr = true := fun q l h => HF.out q l (by have := (List.getElem?_eq_some_iff.mp h).1; have := HM.out; omega) h
                  have hCo := CompactPool_free wq (.slice a1 xs.length c1) (.slice a2 ls.length c2) xs ls HO.out HV.out hp (lent_all hall)
                  obtain ⟨zs, hzs⟩ : ∃ z, z = List.replicate xs.length ((0, 0) : Nat × Nat) := ⟨_, rfl⟩
                  rw [← hzs] at hCo
                  have hzl : zs.length = xs.length := by rw [hzs, List.length_replicate]
                  have hok : POk zs.length ls := by rw [hzl]; exact hp
                  have hFr := fun w s v ho hv => FreeRoom_calls w s v zs ls ho hv hok
                  rw [frees_all (cv_all hall), best_all (cv_all hall)] at hFr
                  have HCo := hid hCo
                  have HFr := hid hFr
                  have e1 : ((zs.length : Int) == (xs.length : Int)) = true := by rw [hzl]; simp
                  have e2 : decide ((zs.length : Int) = (xs.length : Int)) = true := by rw [hzl]; simp
                  clear hCo hFr hall HF hzs hzl hok
                  go_wp2_with fail
                  refine HCo.out.mono ?_
                  rintro e w8 ⟨a8, c8, b8, d8, rfl, hO1, hV1, hG⟩
                  replace R3 := hid (hG.heap R3.out (fun h => h))
                  replace HG := hid (HG.out.trans hG fun _ _ h => h)
                  have HO6 := hid (hO1.mono (Nat.zero_le _))
                  have HV6 := hid (OwnR.mono hV1 (Nat.zero_le _))
                  clear hG hO1 hV1 kR3 HCo
                  go_wp2_with fail
                  refine (HFr.out _ _ _ HO6.out HV6.out).mono ?_
                  rintro e w9 ⟨rfl, hG⟩
                  replace R3 := hid (hG.heap R3.out (fun h => h))
                  replace HG := hid (HG.out.trans hG fun _ _ h => h)
                  clear hG HFr
                  have kR3 := cells_at R3.out
                  go_wp2_with fail
                  go_ret
                  exact ⟨rfl, HG.out⟩
            · have g1 : decide ((room : Int) ≤ (bst : Int)) = true := by simp; omega
              have g2 : (room : Int) ≤ (bst : Int) := by omega
              have g3 : decide ((lv : Int) < 16) = false := by simp; omega
              have g4 : ¬ ((lv : Int) < 16) := by omega
              go_wp2_with fail
              refine hIP.out.mono ?_
              rintro e w7 ⟨rfl, hG⟩
              replace HO := hid (HO.out.chg hG fun _ _ _ h => h)
              replace HV := hid (HV.out.chg hG fun _ _ _ h => h)
              replace R3 := hid (hG.heap R3.out (fun h => h))
              replace HG := hid (HG.out.trans hG fun _ _ h => h)
              clear hG kR3 hIP
              have kR3 := cells_at R3.out
              go_wp2_with fail
              clear g1 g2 g3
              obtain ⟨M, hM⟩ : ∃ M, M = ls.length := ⟨_, rfl⟩
              have HM := hid hM.symm
              rw [← hM]
              have hM16 : M ≤ 16 := by omega
              clear hM
              go_loopw [75] (fun i wx => ∃ (j : Nat), j ≤ M ∧ i = .int .i64 (j : Int) ∧ ∃ xs ls a1 c1 a2 c2, Hid (ls.length = M) ∧ Hid (∀ (q : Nat) (l : Ls), q < j → ls[q]? = some l → l.fr = true) ∧ POk xs.length ls ∧ Hid (wx.heap[b3]? = some (.cells #[.slice a1 xs.length c1, .slice a2 ls.length c2] 67 (0, 0))) ∧ Hid (OwnC wx 0 (.slice a1 xs.length c1) xs) ∧ Hid (OwnL wx 0 (.slice a2 ls.length c2) ls) ∧ Hid (Chg (fun _ => False) w wx)) (fun i _ => M - (intOf i).toNat)
              case atStart => exact ⟨0, Nat.zero_le _, rfl, xs, ls, a1, c1, a2, c2, HM, hid (fun q l h => by omega), hp, R3, HO, HV, HG⟩
              case round =>
                clear R3 HO HV HG HP HM kR3 hp hl16 hlv hkl n256
                obtain ⟨j, hj, rfl, xs, ls, a1, c1, a2, c2, HM, HF, hp, R3, HO, HV, HG⟩ := hrel
                obtain ⟨wq, rfl⟩ : ∃ wq : World, wq = wr := ⟨_, rfl⟩
                have kR3 := cells_at R3.out
                have n256 := hp.nle
                by_cases hlt : j < M
                · have hlt' : (j : Int) < (M : Int) := by omega
                  have hlt2 : j < ls.length := by have := HM.out; omega
                  have hlt3 : (j : Int) < (ls.length : Int) := by omega
                  obtain ⟨g, cc, cur, hv2, hg0, hg1, hgc, hgh, l, hlk, j0, j1, j2, j3⟩ := OwnL.lease HV.out rfl hlt2
                  simp at hv2
                  obtain ⟨rfl, rfl⟩ := hv2
                  have HLK := hid hlk
                  clear hlk hgh
                  cases hf : l.fr
                  · rw [hf] at j3
                    have hle : lentB ls j = true := by rw [lentB_some HLK.out, hf]; rfl
                    have hgv : giveP xs ls j = some (xs, ls.set j Ls.free) := by unfold giveP; rw [hle]; rfl
                    have hok := (giveP_ok hp hgv).1
                    have HF2 := hid (fun (q : Nat) (m : Ls) (hq : q < j + 1) (hm : (ls.set j Ls.free)[q]? = some m) => show m.fr = true by
                      rw [List.getElem?_set] at hm
                      by_cases e : j = q
                      · rw [if_pos e, if_pos (by omega)] at hm
                        obtain rfl := Option.some.inj hm
                        rfl
                      · rw [if_neg e] at hm
                        exact HF.out q m (by omega) hm)
                    have hGB := GiveBack_calls wq (.slice a1 xs.length c1) (.slice (some ⟨g, 0, none⟩) ls.length c2) xs ls j HO.out HV.out hp
                    rw [hgv] at hGB
                    dsimp only at hok
                    have HL2 := hid (show (ls.set j Ls.free).length = M by rw [List.length_set]; exact HM.out)
                    have nb : (((ls.set j Ls.free).length : Int) != (ls.length : Int)) = false := by rw [List.length_set]; simp
                    generalize ls.set j Ls.free = ls2 at *
                    have HGB := hid hGB
                    clear hGB hf hle hgv
                    go_wp2_with fail
                    refine HGB.out.mono ?_
                    rintro e w8 ⟨hG, a8, c8, b8, d8, he, hO1, hV1⟩
                    dsimp only at he hO1 hV1
                    subst he
                    have HO6 := hid (hO1.mono (Nat.zero_le _))
                    have HV6 := hid (OwnR.mono hV1 (Nat.zero_le _))
                    replace HO := hid (HO.out.chg hG fun _ _ _ h => h)
                    replace HV := hid (HV.out.chg hG fun _ _ _ h => h)
                    replace R3 := hid (hG.heap R3.out (fun h => h))
                    replace HG := hid (HG.out.trans hG fun _ _ h => h)
                    clear hG hO1 hV1 HGB kR3
                    have A1 := (Chg.refl (fun _ => False) w8).alloc (.cells #[.slice a8 xs.length c8, .slice b8 ls2.length d8] 67)
                    have R6 := hid (heap_new w8 (.cells #[.slice a8 xs.length c8, .slice b8 ls2.length d8] 67))
                    replace HO := hid (HO.out.chg A1 fun _ _ _ h => h)
                    replace HV := hid (HV.out.chg A1 fun _ _ _ h => h)
                    replace R3 := hid (A1.heap R3.out (fun h => h))
                    replace HG := hid (HG.out.trans A1 fun _ _ h => h)
                    replace HO6 := hid (HO6.out.chg A1 fun _ _ _ h => h)
                    replace HV6 := hid (HV6.out.chg A1 fun _ _ _ h => h)
                    clear A1
                    go_upto_region 26 with fail
                    generalize w8.alloc (.cells #[.slice a8 xs.length c8, .slice b8 ls2.length d8] 67) = w9 at *
                    generalize w8.heap.size = b15 at *
                    have kR6 := cells_at R6.out
                    have kR3 := cells_at R3.out
                    have fR3 := frees_at R3.out
                    go_wp2_with fail
                    have CR := chg_row2 w9 b3 (.slice a8 xs.length c8) (.slice b8 ls2.length d8)
                    go_roundw
                    case rel =>
                      refine ⟨j + 1, by omega, by go_num, xs, ls2, a8, c8, b8, d8, HL2, HF2, hok, hid (heap_row2 R3.out _ _), hid (HO6.out.chgN CR fun g e1 e2 => ?_), hid (OwnR.chgN HV6.out CR fun g e1 e2 => ?_), hid (HG.out.trans CR fun j hj (e : j = b3) => by omega)⟩
                      · subst e2; exact apartTC HO6.out R3.out (by decide) e1
                      · subst e2; exact apartT HV6.out R3.out (by decide) e1
                    case measure => simp [intOf]; omega
                  · rw [hf] at j3
                    have HF2 := hid (fun (q : Nat) (m : Ls) (hq : q < j + 1) (hm : ls[q]? = some m) => show m.fr = true by
                      rcases (by omega : q < j ∨ q = j) with h | rfl
                      · exact HF.out q m h hm
                      · rw [HLK.out] at hm
                        obtain rfl := Option.some.inj hm
                        exact hf)
                    clear hf
                    go_wp2_with fail
                    go_roundw
                    case rel => exact ⟨j + 1, by omega, by go_num, xs, ls, a1, c1, some ⟨g, 0, none⟩, c2, HM, HF2, hp, R3, HO, HV, HG⟩
                    case measure => simp [intOf]; omega
                · obtain rfl : j = M := by omega
                  have hlt' : ¬ (j : Int) < (j : Int) := by omega
                  have hall : ∀ (q : Nat) (l : Ls), ls[q]? = some l → l.fr = true := fun q l h => HF.out q l (by have := (List.getElem?_eq_some_iff.mp h).1; have := HM.out; omega) h
                  have hCo := CompactPool_free wq (.slice a1 xs.length c1) (.slice a2 ls.length c2) xs ls HO.out HV.out hp (lent_all hall)
                  obtain ⟨zs, hzs⟩ : ∃ z, z = List.replicate xs.length ((0, 0) : Nat × Nat) := ⟨_, rfl⟩
                  rw [← hzs] at hCo
                  have hzl : zs.length = xs.length := by rw [hzs, List.length_replicate]
                  have hok : POk zs.length ls := by rw [hzl]; exact hp
                  have hFr := fun w s v ho hv => FreeRoom_calls w s v zs ls ho hv hok
                  rw [frees_all (cv_all hall), best_all (cv_all hall)] at hFr
                  have HCo := hid hCo
                  have HFr := hid hFr
                  have e1 : ((zs.length : Int) == (xs.length : Int)) = true := by rw [hzl]; simp
                  have e2 : decide ((zs.length : Int) = (xs.length : Int)) = true := by rw [hzl]; simp
                  clear hCo hFr hall HF hzs hzl hok
                  go_wp2_with fail
                  refine HCo.out.mono ?_
                  rintro e w8 ⟨a8, c8, b8, d8, rfl, hO1, hV1, hG⟩
                  replace R3 := hid (hG.heap R3.out (fun h => h))
                  replace HG := hid (HG.out.trans hG fun _ _ h => h)
                  have HO6 := hid (hO1.mono (Nat.zero_le _))
                  have HV6 := hid (OwnR.mono hV1 (Nat.zero_le _))
                  clear hG hO1 hV1 kR3 HCo
                  go_wp2_with fail
                  refine (HFr.out _ _ _ HO6.out HV6.out).mono ?_
                  rintro e w9 ⟨rfl, hG⟩
                  replace R3 := hid (hG.heap R3.out (fun h => h))
                  replace HG := hid (HG.out.trans hG fun _ _ h => h)
                  clear hG HFr
                  have kR3 := cells_at R3.out
                  go_wp2_with fail
                  go_ret
                  exact ⟨rfl, HG.out⟩
  · have hb1 : (1048576 : Int) < (len : Int) := by omega
    go_enter Try.func19, Try.ntmps19
    go_wp2_with fail
    go_ret
    exact ⟨rfl, Chg.refl _ w⟩
end Go.Proofs.Ytopkehknaclhlaa
