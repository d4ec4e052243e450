/- The walk of FnPool. No condition. (Printed by gen_qp.py.) -/
import Derived.Test.YtopkehknaclhlaaQo
namespace Go.Proofs.Ytopkehknaclhlaa
open Go Go.RowKit

set_option maxRecDepth 100000 in
set_option maxHeartbeats 4000000 in
theorem walkFnPool (w : World) (a : Option Addr) (len cap : Nat) (h0 : Bytes0 w w.heap.size a len cap) :
    Calls Try.prog 11 #[.slice a len cap] w (LawPost w) := by
  by_cases hbig : len ≤ 1048576
  · have HY := hid (show Bytes w w.heap.size a len cap from ⟨h0.1, hbig, h0.2.2⟩)
    clear h0
    have hb1 : ¬ (1048576 : Int) < (len : Int) := by omega
    go_enter Try.func11, Try.ntmps11
    go_wp2_with fail
    refine (MakePool_calls _ _ _ _ HY.out).mono ?_
    rintro e w1 ⟨xs, ls, a1, c1, a2, c2, rfl, hp, hO, hV, hG⟩
    have n256 := hp.nle
    have m16 := hp.len
    have HP := hid hp
    have HO := hid (hO.mono (Nat.zero_le _))
    have HV := hid (OwnR.mono hV (Nat.zero_le _))
    replace HY := hid (HY.out.chg hG fun _ _ h => h)
    have HG := hid hG
    have zb3 := hG.size
    have HSUM := hid hp.sum
    have HBF := hid (best_frees (cv ls) xs.length)
    have hCp := hid (fun w ho hv => CompactPool_calls w (.slice a1 xs.length c1) (.slice a2 ls.length c2) xs ls ho hv hp)
    have hFR := hid (fun w ho hv => FreeRoom_calls w (.slice a1 xs.length c1) (.slice a2 ls.length c2) xs ls ho hv hp)
    have hWp := hid (fun w (k : Nat) ho hv => (WindowOf_calls w (.slice a1 xs.length c1) (.slice a2 ls.length c2) xs ls k ho hv hp).mono fun e w' h => rwin_flat h)
    have hAI := hid (fun w (id : Nat) u ys ho hv hu hy => (AppendTo_calls w (.slice a1 xs.length c1) (.slice a2 ls.length c2) u xs ys ls id ho hv hu hp hy).mono fun e w' h => rpb_flat h)
    have hAS := hid (fun w (id : Nat) u ys ho hv hu hy => (AppendToS_calls w (.slice a1 xs.length c1) (.slice a2 ls.length c2) u xs ys ls id ho hv hu hp hy).mono fun e w' h => rpb_flat h)
    have HAK := hid (fun (id : Nat) (ys : List (Nat × Nat)) => appB_ok (id := id) (zs := ys) hp)
    have HAW := hid (fun (id : Nat) (ys us : List (Nat × Nat)) (ks : List Ls) (h : flatB (appP xs ls id ys) = (us, ks, true)) (k : Nat) W hW => appB_win hp h k W hW)
    have HWL := hid (fun (k : Nat) => flatW_len (xs := xs) (ls := ls) k)
    have HCE := hid (fun (ids : List Nat) (h : ids.Perm (lentIds ls)) => cp_end hp h)
    clear hO hV hG hp
    generalize hn : xs.length = n at *
    generalize hm : ls.length = m at *
    have HN := hid hn
    have HM := hid hm
    clear hn hm
    have A1 := (Chg.refl (fun _ => False) w1).alloc (.cells #[.slice a1 n c1, .slice a2 m c2] 67)
    have R3 := hid (heap_new w1 (.cells #[.slice a1 n c1, .slice a2 m c2] 67))
    replace HO := hid (HO.out.chg A1 fun _ _ _ h => h)
    replace HV := hid (HV.out.chg A1 fun _ _ _ h => h)
    replace HY := hid (HY.out.chg A1 fun _ _ h => h)
    replace HG := hid (HG.out.trans A1 fun _ _ h => h)
    clear A1
    go_upto_region 4 with fail
    generalize w1.alloc (.cells #[.slice a1 n c1, .slice a2 m c2] 67) = w2 at *
    generalize w1.heap.size = b3 at *
    have kR3 := cells_at R3.out
    go_wp2_with fail
    refine (hCp.out _ HO.out HV.out).mono ?_
    rintro e w3 ⟨ids, hids, a3, c3, a4, c4, rfl, hOq, hVq, hG⟩
    have hce := HCE.out ids hids
    have HOq0 := hid (hOq.mono (Nat.zero_le _))
    have HVq0 := hid (OwnR.mono hVq (Nat.zero_le _))
    clear hids HCE hCp hOq hVq kR3
    generalize (cpAll xs ls ids).1 = ys at *
    generalize (cpAll xs ls ids).2.1 = ms at *
    have hok := hce.ok
    have HWQ := hid hce.win
    have hyl := hce.ylen
    have hml := hce.mlen
    have hfr := hce.fr
    have hbe := hce.be
    clear hce
    rw [HN.out] at hyl hfr hbe
    rw [HM.out] at hml
    have hIq := hid (fun w s v ho hv => IsPoolS_calls w s v ys ms ho hv hok)
    have hFq := hid (fun w s v ho hv => FreeRoom_calls w s v ys ms ho hv hok)
    have hWq := hid (fun w (k : Nat) s v ho hv => (WindowOf_calls w s v ys ms k ho hv hok).mono fun e w' h => rwin_flat h)
    rw [hyl] at hFq HOq0 hfr hbe ⊢
    rw [hml] at HVq0 ⊢
    rw [hfr, hbe] at hFq
    have HOq := hid HOq0.out
    have HVq := hid HVq0.out
    clear HOq0 HVq0 hok hyl hml hfr hbe
    replace HO := hid (HO.out.chg hG fun _ _ _ h => h)
    replace HV := hid (HV.out.chg hG fun _ _ _ h => h)
    replace HY := hid (HY.out.chg hG fun _ _ h => h)
    replace HG := hid (HG.out.trans hG fun _ _ h => h)
    replace R3 := hid (hG.heap R3.out (fun h => h))
    clear hG
    have A1 := (Chg.refl (fun _ => False) w3).alloc (.cells #[.slice a3 n c3, .slice a4 m c4] 67)
    have R4 := hid (heap_new w3 (.cells #[.slice a3 n c3, .slice a4 m c4] 67))
    replace HO := hid (HO.out.chg A1 fun _ _ _ h => h)
    replace HV := hid (HV.out.chg A1 fun _ _ _ h => h)
    replace HY := hid (HY.out.chg A1 fun _ _ h => h)
    replace HG := hid (HG.out.trans A1 fun _ _ h => h)
    replace R3 := hid (A1.heap R3.out (fun h => h))
    replace HOq := hid (HOq.out.chg A1 fun _ _ _ h => h)
    replace HVq := hid (HVq.out.chg A1 fun _ _ _ h => h)
    clear A1
    go_upto_region 5 with fail
    generalize w3.alloc (.cells #[.slice a3 n c3, .slice a4 m c4] 67) = w4 at *
    generalize w3.heap.size = b4 at *
    have kR3 := cells_at R3.out
    have zw4 : b3 < w4.heap.size := heap_lt R3.out
    go_wp2_with fail
    go_loopw [5, 35] (fun x i wx => ∃ (j : Nat), j ≤ m ∧ i = .int .i64 (j : Int) ∧ x = .int .i64 ((sumR (ls.take j) : Nat) : Int) ∧ Hid (Chg (fun _ => False) w4 wx)) (fun _ i _ => m - (intOf i).toNat)
    case atStart => exact ⟨0, Nat.zero_le _, rfl, rfl, hid (Chg.refl _ _)⟩
    case round =>
      obtain ⟨j, hj, rfl, rfl, GR⟩ := hrel
      obtain ⟨wp, rfl⟩ : ∃ wp : World, wp = wr := ⟨_, rfl⟩
      clear kR3
      by_cases hlt : j < m
      · have hlt' : (j : Int) < (m : Int) := by omega
        have HVw := hid (HV.out.chg GR.out fun _ _ _ h => h)
        obtain ⟨g, cc, cur, hv2, hg0, hg1, hgc, hgh, l, hlk, j0, j1, j2, j3⟩ := OwnL.lease HVw.out HM.out hlt
        simp at hv2
        obtain ⟨rfl, rfl⟩ := hv2
        have HLT := hid (sumR_take ls j l hlk)
        have hle1 := sumR_le ls j
        have hle2 := sumR_le ls (j + 1)
        rw [HLT.out] at hle2
        have hs2 := HSUM.out
        generalize hS : sumR (ls.take j) = S at *
        have HS := hid hS
        clear hlk hgh hS
        generalize l.st = p at *
        generalize l.ct = q at *
        generalize l.rm = r at *
        generalize l.fr = ff at *
        go_wp2_with fail
        go_roundw
        case rel => exact ⟨j + 1, by omega, by go_num, by rw [HLT.out]; (try rw [HS.out]); congr 1, hid (GR.out.alloc _)⟩
        case measure => simp [intOf]; omega
      · obtain rfl : m = j := by omega
        have hlt' : ¬ (m : Int) < (m : Int) := by omega
        have hG := GR.out
        have eT : ls.take m = ls := by rw [← HM.out]; exact List.take_length
        rw [eT]
        replace HO := hid (HO.out.chg hG fun _ _ _ h => h)
        replace HV := hid (HV.out.chg hG fun _ _ _ h => h)
        replace HY := hid (HY.out.chg hG fun _ _ h => h)
        replace HG := hid (HG.out.trans hG fun _ _ h => h)
        replace R3 := hid (hG.heap R3.out (fun h => h))
        replace HOq := hid (HOq.out.chg hG fun _ _ _ h => h)
        replace HVq := hid (HVq.out.chg hG fun _ _ _ h => h)
        replace R4 := hid (hG.heap R4.out (fun h => h))
        clear hG GR eT
        have kR3 := cells_at R3.out
        have hs2 := HSUM.out
        have hbf := HBF.out
        generalize sumR ls = S at *
        generalize frees (cv ls) n = fr at *
        generalize best (cv ls) n = be at *
        clear HSUM HBF
        have hfr9 : fr ≤ 256 := by omega
        have hS9 : S ≤ 256 := by omega
        have hbe9 : be ≤ 256 := by omega
        go_wp2_with fail
        refine (hFR.out _ HO.out HV.out).mono ?_
        rintro e w6 ⟨rfl, hG⟩
        replace HO := hid (HO.out.chg hG fun _ _ _ h => h)
        replace HV := hid (HV.out.chg hG fun _ _ _ h => h)
        replace HY := hid (HY.out.chg hG fun _ _ h => h)
        replace HG := hid (HG.out.trans hG fun _ _ h => h)
        replace R3 := hid (hG.heap R3.out (fun h => h))
        replace HOq := hid (HOq.out.chg hG fun _ _ _ h => h)
        replace HVq := hid (HVq.out.chg hG fun _ _ _ h => h)
        replace R4 := hid (hG.heap R4.out (fun h => h))
        clear hG kR3 hFR
        have kR4 := cells_at R4.out
        go_wp2_with fail
        refine (hFq.out _ _ _ HOq.out HVq.out).mono ?_
        rintro e w7 ⟨rfl, hG⟩
        replace HO := hid (HO.out.chg hG fun _ _ _ h => h)
        replace HV := hid (HV.out.chg hG fun _ _ _ h => h)
        replace HY := hid (HY.out.chg hG fun _ _ h => h)
        replace HG := hid (HG.out.trans hG fun _ _ h => h)
        replace R3 := hid (hG.heap R3.out (fun h => h))
        replace HOq := hid (HOq.out.chg hG fun _ _ _ h => h)
        replace HVq := hid (HVq.out.chg hG fun _ _ _ h => h)
        replace R4 := hid (hG.heap R4.out (fun h => h))
        clear hG kR4 hFq
        have kR4 := cells_at R4.out
        have kR3 := cells_at R3.out
        go_upto_region 13 with fail
        have q1 : ((fr : Int) + (S : Int) != (n : Int)) = false := by simp; omega
        have q2 : decide ((fr : Int) < (be : Int)) = false := by simp; omega
        have q3 : ¬ ((fr : Int) < (be : Int)) := by omega
        go_wp2_with fail
        refine (hIq.out _ _ _ HOq.out HVq.out).mono ?_
        rintro e w8 ⟨rfl, hG⟩
        replace HO := hid (HO.out.chg hG fun _ _ _ h => h)
        replace HV := hid (HV.out.chg hG fun _ _ _ h => h)
        replace HY := hid (HY.out.chg hG fun _ _ h => h)
        replace HG := hid (HG.out.trans hG fun _ _ h => h)
        replace R3 := hid (hG.heap R3.out (fun h => h))
        replace HOq := hid (HOq.out.chg hG fun _ _ _ h => h)
        replace HVq := hid (HVq.out.chg hG fun _ _ _ h => h)
        replace R4 := hid (hG.heap R4.out (fun h => h))
        clear hG kR4 kR3 hIq
        have kR4 := cells_at R4.out
        have kR3 := cells_at R3.out
        go_upto_region 15 with fail
        clear q1 q2 q3 kR4 kR3
        obtain ⟨wb, rfl⟩ : ∃ wb : World, wb = w8 := ⟨_, rfl⟩
        obtain ⟨x2, hx2⟩ := AtIs.of HY.out 1
        have u2 := hx2.1
        have hAt2 := hid (fun wx (G : Chg (fun _ => False) wb wx) => at_val wx w.heap.size a len cap 1 x2 hbig (by omega) (hx2.chg G))
        clear hx2
        have w1' : IntKind.i64.wrap ((m : Int) + 1) = (m : Int) + 1 := by rw [IntKind.wrap_i64]; omega
        have w2' : ¬ ((m : Int) + 1 = 0) := by omega
        have w3' : 0 < (m : Int) + 1 := by omega
        have w4' : (0 : Int) ≤ (x2 : Int) := by omega
        have y1 : wb.cell? ⟨b3, 1, none⟩ = some (.slice a2 m c2) := cell_at R3.out
        go_region_held3 (fun wx => wx.cell? ⟨b3, 1, none⟩ = some (.slice a2 m c2)) (first | (with_reducible assumption) | go_keep) (first | (go_at_call 56; refine (hAt2.out _ (Chg.refl _ wb).drew).mono ?_; rintro e w' ⟨rfl, rfl⟩))
        go_upto_region 16 with fail
        obtain ⟨id, hk⟩ : ∃ k : Nat, (k : Int) = (x2 : Int).tmod ((m : Int) + 1) := ⟨x2 % (m + 1), by rw [Int.tmod_eq_emod_of_nonneg w4']; first | rfl | simp | (push_cast; rfl)⟩
        rw [← hk]
        have A1 := (Chg.refl (fun _ => False) wb).drew
        clear hk w1' w2' w3' w4' y1 u2 hAt2
        replace HO := hid (HO.out.chg A1 fun _ _ _ h => h)
        replace HV := hid (HV.out.chg A1 fun _ _ _ h => h)
        replace HY := hid (HY.out.chg A1 fun _ _ h => h)
        replace HG := hid (HG.out.trans A1 fun _ _ h => h)
        replace R3 := hid (A1.heap R3.out (fun h => h))
        replace HOq := hid (HOq.out.chg A1 fun _ _ _ h => h)
        replace HVq := hid (HVq.out.chg A1 fun _ _ _ h => h)
        replace R4 := hid (A1.heap R4.out (fun h => h))
        clear A1
        generalize wb.drew = wz at *
        go_wp2_with fail
        refine (fresh_calls _ _ _ _ (by obtain ⟨h1, h2, h3⟩ := HY.out; exact ⟨h1, h2, fun k hk => by obtain ⟨b, off, z, h4, h5, h6⟩ := h3 k hk; exact ⟨b, off, z, h4, by have := HG.out.size; omega, h6⟩⟩) 3 (by omega)).mono ?_
        rintro e w9 ⟨a9, l9, c9, hl9, rfl, hy9, hG⟩
        replace HO := hid (HO.out.chg hG fun _ _ _ h => h)
        replace HV := hid (HV.out.chg hG fun _ _ _ h => h)
        replace HG := hid (HG.out.trans hG fun _ _ h => h)
        replace R3 := hid (hG.heap R3.out (fun h => h))
        replace HOq := hid (HOq.out.chg hG fun _ _ _ h => h)
        replace HVq := hid (HVq.out.chg hG fun _ _ _ h => h)
        replace R4 := hid (hG.heap R4.out (fun h => h))
        have HY9 := hid hy9
        clear hG hy9 HY
        go_wp2_with fail
        refine (MakeSamples_calls _ _ _ _ HY9.out 5 (by omega) (by omega)).mono ?_
        rintro e w10 ⟨a10, c10, zs, hz5, rfl, hO, hG⟩
        replace HO := hid (HO.out.chg hG fun _ _ _ h => h)
        replace HV := hid (HV.out.chg hG fun _ _ _ h => h)
        replace HG := hid (HG.out.trans hG fun _ _ h => h)
        replace R3 := hid (hG.heap R3.out (fun h => h))
        replace HOq := hid (HOq.out.chg hG fun _ _ _ h => h)
        replace HVq := hid (HVq.out.chg hG fun _ _ _ h => h)
        replace R4 := hid (hG.heap R4.out (fun h => h))
        have HL := hid (hO.mono (Nat.zero_le _))
        clear hG hO HY9
        have kR3 := cells_at R3.out
        have hAIz := hAI.out w10 id (.slice a10 zs.length c10) zs HO.out HV.out HL.out (by omega)
        have hFL : ∃ us ks ok, flatB (appP xs ls id zs) = (us, ks, ok) := ⟨_, _, _, rfl⟩
        obtain ⟨us, ks, ok, hfl⟩ := hFL
        have hAK := HAK.out id zs
        have HAW2 := hid (fun (h : ok = true) => HAW.out id zs us ks (by rw [hfl, h]))
        rw [hfl] at hAIz hAK
        have hWu := hid (fun w (k : Nat) s v ho hv => (WindowOf_calls w s v us ks k ho hv hAK).mono fun e w' h => rwin_flat h)
        have HAI := hid hAIz
        have HAS := hid (fun w u ho hv hu => (hfl ▸ hAS.out w id u zs ho hv hu (by omega) : Calls Try.prog 58 #[.agg #[.slice a1 n c1, .slice a2 m c2], .int .i64 (id : Int), u] w (RFlatB w (us, ks, ok))))
        clear hAIz hAI hAS HAK HAW hfl hAK
        go_wp2_with fail
        refine HAI.out.mono ?_
        rintro e w11 ⟨a11, c11, b11, d11, he, hO, hV, hG⟩
        dsimp only at he hO hV
        subst he
        have HOu := hid (hO.mono (Nat.zero_le _))
        have HVu := hid (OwnR.mono hV (Nat.zero_le _))
        replace HO := hid (HO.out.chg hG fun _ _ _ h => h)
        replace HV := hid (HV.out.chg hG fun _ _ _ h => h)
        replace HG := hid (HG.out.trans hG fun _ _ h => h)
        replace R3 := hid (hG.heap R3.out (fun h => h))
        replace HOq := hid (HOq.out.chg hG fun _ _ _ h => h)
        replace HVq := hid (HVq.out.chg hG fun _ _ _ h => h)
        replace R4 := hid (hG.heap R4.out (fun h => h))
        replace HL := hid (HL.out.chg hG fun _ _ _ h => h)
        clear hG hO hV HAI kR3
        have A1 := (Chg.refl (fun _ => False) w11).alloc (.cells #[.slice a11 us.length c11, .slice b11 ks.length d11] 67)
        have R14 := hid (heap_new w11 (.cells #[.slice a11 us.length c11, .slice b11 ks.length d11] 67))
        replace HO := hid (HO.out.chg A1 fun _ _ _ h => h)
        replace HV := hid (HV.out.chg A1 fun _ _ _ h => h)
        replace HG := hid (HG.out.trans A1 fun _ _ h => h)
        replace R3 := hid (A1.heap R3.out (fun h => h))
        replace HOq := hid (HOq.out.chg A1 fun _ _ _ h => h)
        replace HVq := hid (HVq.out.chg A1 fun _ _ _ h => h)
        replace R4 := hid (A1.heap R4.out (fun h => h))
        replace HL := hid (HL.out.chg A1 fun _ _ _ h => h)
        replace HOu := hid (HOu.out.chg A1 fun _ _ _ h => h)
        replace HVu := hid (HVu.out.chg A1 fun _ _ _ h => h)
        clear A1
        go_upto_region 18 with fail
        generalize w11.alloc (.cells #[.slice a11 us.length c11, .slice b11 ks.length d11] 67) = w12 at *
        generalize w11.heap.size = b14 at *
        have kR3 := cells_at R3.out
        go_wp2_with fail
        refine (HAS.out _ _ HO.out HV.out HL.out).mono ?_
        rintro e w13 ⟨a13, c13, b13, d13, he, hO, hV, hG⟩
        dsimp only at he
        subst he
        replace HO := hid (HO.out.chg hG fun _ _ _ h => h)
        replace HV := hid (HV.out.chg hG fun _ _ _ h => h)
        replace HG := hid (HG.out.trans hG fun _ _ h => h)
        replace R3 := hid (hG.heap R3.out (fun h => h))
        replace HOq := hid (HOq.out.chg hG fun _ _ _ h => h)
        replace HVq := hid (HVq.out.chg hG fun _ _ _ h => h)
        replace R4 := hid (hG.heap R4.out (fun h => h))
        replace HL := hid (HL.out.chg hG fun _ _ _ h => h)
        replace HOu := hid (HOu.out.chg hG fun _ _ _ h => h)
        replace HVu := hid (HVu.out.chg hG fun _ _ _ h => h)
        replace R14 := hid (hG.heap R14.out (fun h => h))
        clear hG hO hV HAS kR3
        have A1 := (Chg.refl (fun _ => False) w13).alloc (.cells #[.slice a13 us.length c13, .slice b13 ks.length d13] 67)
        replace HO := hid (HO.out.chg A1 fun _ _ _ h => h)
        replace HV := hid (HV.out.chg A1 fun _ _ _ h => h)
        replace HG := hid (HG.out.trans A1 fun _ _ h => h)
        replace R3 := hid (A1.heap R3.out (fun h => h))
        replace HOq := hid (HOq.out.chg A1 fun _ _ _ h => h)
        replace HVq := hid (HVq.out.chg A1 fun _ _ _ h => h)
        replace R4 := hid (A1.heap R4.out (fun h => h))
        replace HL := hid (HL.out.chg A1 fun _ _ _ h => h)
        replace HOu := hid (HOu.out.chg A1 fun _ _ _ h => h)
        replace HVu := hid (HVu.out.chg A1 fun _ _ _ h => h)
        replace R14 := hid (A1.heap R14.out (fun h => h))
        clear A1
        go_upto_region 19 with fail
        generalize w13.alloc (.cells #[.slice a13 us.length c13, .slice b13 ks.length d13] 67) = w14 at *
        have zz14 : w.heap.size ≤ w14.heap.size := HG.out.size
        have kR3 := cells_at R3.out
        go_wp2_with fail
        go_loopw [129] (fun i wx => ∃ (j : Nat), j ≤ m ∧ i = .int .i64 (j : Int) ∧ Hid (Chg (fun _ => False) w14 wx)) (fun i _ => m - (intOf i).toNat)
        case atStart => exact ⟨0, Nat.zero_le _, rfl, hid (Chg.refl _ _)⟩
        case round =>
          obtain ⟨j, hj, rfl, GL⟩ := hrel
          obtain ⟨wo, rfl⟩ : ∃ wo : World, wo = wr := ⟨_, rfl⟩
          clear kR3
          have hG := GL.out
          replace HO := hid (HO.out.chg hG fun _ _ _ h => h)
          replace HV := hid (HV.out.chg hG fun _ _ _ h => h)
          replace HG := hid (HG.out.trans hG fun _ _ h => h)
          replace R3 := hid (hG.heap R3.out (fun h => h))
          replace HOq := hid (HOq.out.chg hG fun _ _ _ h => h)
          replace HVq := hid (HVq.out.chg hG fun _ _ _ h => h)
          replace R4 := hid (hG.heap R4.out (fun h => h))
          replace HL := hid (HL.out.chg hG fun _ _ _ h => h)
          replace HOu := hid (HOu.out.chg hG fun _ _ _ h => h)
          replace HVu := hid (HVu.out.chg hG fun _ _ _ h => h)
          replace R14 := hid (hG.heap R14.out (fun h => h))
          clear hG
          by_cases hlt : j < m
          · have hlt' : (j : Int) < (m : Int) := by omega
            have hWl := HWL.out j
            have hwp := hWp.out wo j HO.out HV.out
            have hwq := fun wx ho hv => hWq.out wx j (.slice a3 n c3) (.slice a4 m c4) ho hv
            rw [HWQ.out j] at hwq
            obtain ⟨W, b, hW⟩ : ∃ W b, flatW (winP xs ls j) = (W, b) := ⟨_, _, rfl⟩
            have HWE := hid hW
            rw [hW] at hWl hwp hwq
            have hwl : W.length ≤ 256 := by have : W.length ≤ n := hWl; omega
            have HWP := hid hwp
            have HWQJ := hid hwq
            clear hW hWl hwp hwq
            have kR3 := cells_at R3.out
            go_wp2_with fail
            refine HWP.out.mono ?_
            rintro e w15 ⟨a15, c15, he, hO, hG⟩
            dsimp only at he hO
            subst he
            have HA := hid (hO.mono (Nat.zero_le _))
            replace HO := hid (HO.out.chg hG fun _ _ _ h => h)
            replace HV := hid (HV.out.chg hG fun _ _ _ h => h)
            replace HG := hid (HG.out.trans hG fun _ _ h => h)
            replace R3 := hid (hG.heap R3.out (fun h => h))
            replace HOq := hid (HOq.out.chg hG fun _ _ _ h => h)
            replace HVq := hid (HVq.out.chg hG fun _ _ _ h => h)
            replace R4 := hid (hG.heap R4.out (fun h => h))
            replace HL := hid (HL.out.chg hG fun _ _ _ h => h)
            replace HOu := hid (HOu.out.chg hG fun _ _ _ h => h)
            replace HVu := hid (HVu.out.chg hG fun _ _ _ h => h)
            replace R14 := hid (hG.heap R14.out (fun h => h))
            replace GL := hid (GL.out.trans hG fun _ _ h => h)
            clear hG hO kR3 HWP
            have kR4 := cells_at R4.out
            go_wp2_with fail
            refine (HWQJ.out _ HOq.out HVq.out).mono ?_
            rintro e w16 ⟨a16, c16, he, hO, hG⟩
            dsimp only at he hO
            subst he
            have HB := hid (hO.mono (Nat.zero_le _))
            replace HO := hid (HO.out.chg hG fun _ _ _ h => h)
            replace HV := hid (HV.out.chg hG fun _ _ _ h => h)
            replace HG := hid (HG.out.trans hG fun _ _ h => h)
            replace R3 := hid (hG.heap R3.out (fun h => h))
            replace HOq := hid (HOq.out.chg hG fun _ _ _ h => h)
            replace HVq := hid (HVq.out.chg hG fun _ _ _ h => h)
            replace R4 := hid (hG.heap R4.out (fun h => h))
            replace HL := hid (HL.out.chg hG fun _ _ _ h => h)
            replace HOu := hid (HOu.out.chg hG fun _ _ _ h => h)
            replace HVu := hid (HVu.out.chg hG fun _ _ _ h => h)
            replace R14 := hid (hG.heap R14.out (fun h => h))
            replace GL := hid (GL.out.trans hG fun _ _ h => h)
            replace HA := hid (HA.out.chg hG fun _ _ _ h => h)
            clear hG hO kR4 HWQJ
            cases b with
            | false =>
              go_wp2_with fail
              refine (MakeSame_refl _ _ _ W (by omega) HA.out HB.out).mono ?_
              rintro e w17 ⟨rfl, nn, rfl⟩
              cases ok with
              | false =>
                go_wp2_with fail
                go_roundw
                case rel => exact ⟨j + 1, by omega, by go_num, hid (GL.out.drewN nn)⟩
                case measure => simp [intOf]; omega
              | true =>
                go_wp2_with fail
                go_roundw
                case rel => exact ⟨j + 1, by omega, by go_num, hid (GL.out.drewN nn)⟩
                case measure => simp [intOf]; omega
            | true =>
              go_wp2_with fail
              refine (MakeSame_refl _ _ _ W (by omega) HA.out HB.out).mono ?_
              rintro e w17 ⟨rfl, nn, rfl⟩
              cases ok with
              | false =>
                go_wp2_with fail
                go_roundw
                case rel => exact ⟨j + 1, by omega, by go_num, hid (GL.out.drewN nn)⟩
                case measure => simp [intOf]; omega
              | true =>
                as_aux_lemma =>
                  have hG := (Chg.refl (fun _ => False) w16).drewN nn
                  replace HO := hid (HO.out.chg hG fun _ _ _ h => h)
                  replace HV := hid (HV.out.chg hG fun _ _ _ h => h)
                  replace HG := hid (HG.out.trans hG fun _ _ h => h)
                  replace R3 := hid (hG.heap R3.out (fun h => h))
                  replace HOq := hid (HOq.out.chg hG fun _ _ _ h => h)
                  replace HVq := hid (HVq.out.chg hG fun _ _ _ h => h)
                  replace R4 := hid (hG.heap R4.out (fun h => h))
                  replace HL := hid (HL.out.chg hG fun _ _ _ h => h)
                  replace HOu := hid (HOu.out.chg hG fun _ _ _ h => h)
                  replace HVu := hid (HVu.out.chg hG fun _ _ _ h => h)
                  replace R14 := hid (hG.heap R14.out (fun h => h))
                  replace GL := hid (GL.out.trans hG fun _ _ h => h)
                  replace HA := hid (HA.out.chg hG fun _ _ _ h => h)
                  have hwu := hWu.out
                  have hau := HAW2.out rfl j W HWE.out
                  have hwuj := hwu (w16.drewN nn) j _ _ HOu.out HVu.out
                  rw [hau] at hwuj
                  have HWU := hid hwuj
                  clear hG hwu hau hwuj HB hWu HAW2 HWE HWQ HWL hWp hWq
                  generalize w16.drewN nn = w17 at *
                  have kR14 := cells_at R14.out
                  by_cases hji : j = id
                  · subst hji
                    rw [if_pos rfl] at HWU
                    go_wp2_with fail
                    refine HWU.out.mono ?_
                    rintro e w18 ⟨a18, c18, he, hO, hG⟩
                    dsimp only at he hO
                    subst he
                    have HB := hid (hO.mono (Nat.zero_le _))
                    simp only [List.length_append] at HB ⊢
                    replace HL := hid (HL.out.chg hG fun _ _ _ h => h)
                    replace GL := hid (GL.out.trans hG fun _ _ h => h)
                    replace HA := hid (HA.out.chg hG fun _ _ _ h => h)
                    have zg18 := hG.size
                    clear hG hO HWU kR14
                    have EE := hid (OwnC.lit w18 [] 33 rfl (by simp) (Nat.le_refl w18.heap.size) #[] rfl)
                    have BA := hid (fun q (h : some q = (Value.slice a15 W.length c15).ownBlock) => (HA.out.own_lt h).2)
                    have BB := hid (fun q (h : some q = (Value.slice a18 (W.length + zs.length) c18).ownBlock) => (HB.out.own_lt h).2)
                    have BL := hid (fun q (h : some q = (Value.slice a10 zs.length c10).ownBlock) => (HL.out.own_lt h).2)
                    have zg14 := GL.out.size
                    have A1 := (Chg.refl (fun _ => False) w18).alloc (.cells #[] 33)
                    replace GL := hid (GL.out.trans A1 fun _ _ h => h)
                    replace HA := hid (HA.out.chg A1 fun _ _ _ h => h)
                    replace HB := hid (HB.out.chg A1 fun _ _ _ h => h)
                    replace HL := hid (HL.out.chg A1 fun _ _ _ h => h)
                    have z23 := A1.size
                    clear A1
                    go_wp2_with (at_builtin; refine wpList_appW _ rfl _ _ rfl w18.heap.size _ _ [] W rfl EE.out rfl HA.out (by simp; omega) (by simp) ?_)
                    intro a24 c24 w24 hO hG
                    have O4 := hid (show OwnC w24 w18.heap.size (.slice a24 W.length c24) W by simpa using hO)
                    have z24 : w18.heap.size ≤ w24.heap.size := Nat.le_trans z23 hG.size
                    have HB24 : ∀ q, some q = (Value.slice (some ⟨w18.heap.size, 0, none⟩) 0 0).ownBlock → q = w18.heap.size := fun q h => by simpa [Value.ownBlock] using h
                    replace HB := hid (HB.out.chgN hG (fun q h1 h2 => by have := HB24 q h2; have := BB.out q h1; omega))
                    replace HL := hid (HL.out.chgN hG (fun q h1 h2 => by have := HB24 q h2; have := BL.out q h1; omega))
                    replace GL := hid (GL.out.trans hG (fun q h1 h2 => by have := HB24 q h2; omega))
                    clear hO hG EE HA BA
                    try simp only [List.length_nil, Nat.zero_add]
                    go_wp2_with (at_builtin; refine wpList_appW _ rfl _ _ rfl w18.heap.size _ _ W zs rfl O4.out rfl HL.out (by omega) (by omega) ?_)
                    intro a25 c25 w25 hO hG
                    have O5 := hid hO
                    have BO := fun q (h : some q = (Value.slice a24 W.length c24).ownBlock) => (O4.out.own_lt h).1
                    replace HB := hid (HB.out.chgN hG (fun q h1 h2 => by have := BO q h2; have := BB.out q h1; omega))
                    replace GL := hid (GL.out.trans hG (fun q h1 h2 => by have := BO q h2; omega))
                    clear hO hG O4 BB BL
                    go_wp2_with fail
                    refine (MakeSame_refl _ _ _ (W ++ zs) (by rw [List.length_append]; omega) (O5.out.mono (Nat.zero_le _)) HB.out).mono ?_
                    rintro e w26 ⟨rfl, n2, rfl⟩
                    go_wp2_with fail
                    go_roundw
                    case rel => exact ⟨j + 1, by omega, by go_num, hid (GL.out.drewN n2)⟩
                    case measure => simp [intOf]; omega
                  · rw [if_neg hji] at HWU
                    have hji2 : ¬ ((j : Int) = (id : Int)) := by omega
                    go_wp2_with fail
                    refine HWU.out.mono ?_
                    rintro e w18 ⟨a18, c18, he, hO, hG⟩
                    dsimp only at he hO
                    subst he
                    have HB := hid (hO.mono (Nat.zero_le _))
                    replace HL := hid (HL.out.chg hG fun _ _ _ h => h)
                    replace GL := hid (GL.out.trans hG fun _ _ h => h)
                    replace HA := hid (HA.out.chg hG fun _ _ _ h => h)
                    clear hG hO HWU kR14
                    go_wp2_with fail
                    refine (MakeSame_refl _ _ _ W (by omega) HA.out HB.out).mono ?_
                    rintro e w26 ⟨rfl, n2, rfl⟩
                    go_wp2_with fail
                    go_roundw
                    case rel => exact ⟨j + 1, by omega, by go_num, hid (GL.out.drewN n2)⟩
                    case measure => simp [intOf]; omega
          · obtain rfl : m = j := by omega
            have hlt' : ¬ (m : Int) < (m : Int) := by omega
            go_wp2_with fail
            go_ret
            exact ⟨rfl, HG.out⟩
  · have hb1 : (1048576 : Int) < (len : Int) := by omega
    go_enter Try.func11, Try.ntmps11
    go_wp2_with fail
    go_ret
    exact ⟨rfl, Chg.refl _ w⟩
end Go.Proofs.Ytopkehknaclhlaa
