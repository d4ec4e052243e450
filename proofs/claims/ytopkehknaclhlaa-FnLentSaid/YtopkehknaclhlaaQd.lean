/- The walk of FnLent. No condition. (Printed by gen_qd.py.) -/
import Derived.Test.YtopkehknaclhlaaQc
import Derived.Test.YtopkehknaclhlaaMj
namespace Go.Proofs.Ytopkehknaclhlaa
open Go Go.RowKit

/-- The number that 'at' gives for a place. -/
def AtIs (w : World) (B : Nat) (a : Option Addr) (len i x : Nat) : Prop :=
  x ≤ 255 ∧ ((len ≤ i ∧ x = (i * 37 + len * 11) % 256) ∨ (i < len ∧ ∃ b off, a = some ⟨b, off, none⟩ ∧ b < B ∧ w.cell? ⟨b, off + i, none⟩ = some (.int .u8 (x : Int))))
theorem AtIs.of {w : World} {B : Nat} {a : Option Addr} {len cap : Nat} (h : Bytes w B a len cap) (i : Nat) : ∃ x, AtIs w B a len i x := by
  by_cases hlt : i < len
  · obtain ⟨b, off, z, rfl, hb, hz, hz0, hz1⟩ := h.2.2 i hlt
    obtain ⟨x, rfl⟩ := Int.eq_ofNat_of_zero_le hz0
    exact ⟨x, by omega, .inr ⟨hlt, b, off, rfl, hb, hz⟩⟩
  · exact ⟨_, by omega, .inl ⟨by omega, rfl⟩⟩
theorem AtIs.chg {w w' : World} {B : Nat} {a : Option Addr} {len i x : Nat} (h : AtIs w B a len i x) (G : Chg (fun _ => False) w w') : AtIs w' B a len i x := by
  obtain ⟨h1, h2⟩ := h
  refine ⟨h1, ?_⟩
  rcases h2 with h2 | ⟨h2, b, off, h3, h4, h5⟩
  · exact .inl h2
  · exact .inr ⟨h2, b, off, h3, h4, G.cell h5 (fun h => h)⟩
set_option maxHeartbeats 1000000 in
theorem at_val (w : World) (B : Nat) (a : Option Addr) (len cap i x : Nat) (hl : len ≤ 1048576) (hi : i ≤ 10000) (hx : AtIs w B a len i x) :
    Calls Try.prog 56 #[.slice a len cap, .int .i64 (i : Int)] w (fun e w' => e = .returned (.int .i64 (x : Int)) ∧ w = w') := by
  obtain ⟨hx1, h2⟩ := hx
  rcases h2 with ⟨h2, rfl⟩ | ⟨h2, b, off, rfl, h4, hz⟩
  · have hlt' : ¬ (i : Int) < (len : Int) := by omega
    have i0 : (0 : Int) ≤ (i : Int) := by omega
    have i1 : (i : Int) ≤ 10000 := by omega
    have l0 : (0 : Int) ≤ (len : Int) := by omega
    have l1 : (len : Int) ≤ 1048576 := by omega
    go_enter Try.func56, Try.ntmps56
    go_wp2
    go_ret
    exact ⟨by congr 2, rfl⟩
  · have hlt' : (i : Int) < (len : Int) := by omega
    go_enter Try.func56, Try.ntmps56
    go_wp2
    go_ret
    exact ⟨rfl, rfl⟩

/-- A pool, a number and whether it went well: nothing, 0 and false if not. -/
def flat : Option (List (Nat × Nat) × List Ls × Nat) → List (Nat × Nat) × List Ls × Nat × Bool
  | some r => (r.1, r.2.1, r.2.2, true)
  | none => ([], [], 0, false)
def RFlat (w : World) (r : List (Nat × Nat) × List Ls × Nat × Bool) (e : Ending) (w' : World) : Prop :=
  ∃ a c b d, e = .returned (.tuple #[.agg #[.slice a r.1.length c, .slice b r.2.1.length d], .int .i64 (r.2.2.1 : Int), .bool r.2.2.2]) ∧ OwnC w' w.heap.size (.slice a r.1.length c) r.1 ∧ OwnL w' w.heap.size (.slice b r.2.1.length d) r.2.1 ∧ Chg (fun _ => False) w w'
theorem rpk_flat {w w' : World} {r : Option (List (Nat × Nat) × List Ls × Nat)} {e : Ending} (h : RPk w r e w') : RFlat w (flat r) e w' := by
  obtain ⟨hG, h⟩ := h
  cases r with
  | none => exact ⟨none, 0, none, 0, h, OwnC.nil _ _, OwnR.nil encL _ _, hG⟩
  | some r =>
    obtain ⟨a, c, b, d, h1, h2, h3⟩ := h
    exact ⟨a, c, b, d, h1, h2, h3, hG⟩
theorem flat_ok {o : Option (List (Nat × Nat) × List Ls × Nat)} (h : ∀ r, o = some r → POk r.1.length r.2.1) : POk (flat o).1.length (flat o).2.1 := by
  cases o with
  | none => exact ⟨(by show 0 ≤ 256; omega), (by show 0 ≤ 16; omega), (fun l h => by cases h), List.Pairwise.nil⟩
  | some r => exact h r rfl
theorem flat_some {o : Option (List (Nat × Nat) × List Ls × Nat)} (h : (flat o).2.2.2 = true) : o = some ((flat o).1, (flat o).2.1, (flat o).2.2.1) := by
  cases o with
  | none => cases h
  | some r => rfl

theorem rwin_any {w w' : World} {r : Option (List (Nat × Nat))} {e : Ending} (h : RWin w r e w') : ∃ a n c b, e = .returned (.tuple #[.slice a n c, .bool b]) ∧ Chg (fun _ => False) w w' := by
  obtain ⟨hG, h⟩ := h
  cases r with
  | none => exact ⟨none, 0, 0, false, h, hG⟩
  | some ys =>
    obtain ⟨a, c, h1, _⟩ := h
    exact ⟨a, _, c, true, h1, hG⟩
theorem winP_len {xs : List (Nat × Nat)} {ls : List Ls} {k : Nat} {ys : List (Nat × Nat)} (h : winP xs ls k = some ys) : ys.length ≤ xs.length := by
  unfold winP at h
  cases hl : ls[k]? with
  | none => rw [hl] at h; cases h
  | some l =>
    rw [hl] at h
    dsimp only at h
    split at h
    · obtain rfl := Option.some.inj h
      rw [List.length_take, List.length_drop]
      omega
    · cases h

set_option maxRecDepth 100000 in
set_option maxHeartbeats 4000000 in
theorem walkFnLent (w : World) (a : Option Addr) (len cap : Nat) (h0 : Bytes0 w w.heap.size a len cap) :
    Calls Try.prog 17 #[.slice a len cap] w (LawPost w) := by
  by_cases hbig : len ≤ 1048576
  · have HY := hid (show Bytes w w.heap.size a len cap from ⟨h0.1, hbig, h0.2.2⟩)
    clear h0
    have hb1 : ¬ (1048576 : Int) < (len : Int) := by omega
    go_enter Try.func17, Try.ntmps17
    go_wp2_with fail
    refine (MakePool_calls _ _ _ _ HY.out).mono ?_
    rintro e w1 ⟨xs, ls, a1, c1, a2, c2, rfl, hp, hO, hV, hG⟩
    have n256 := hp.nle
    have m16 := hp.len
    have HP := hid hp
    have HO := hid (hO.mono (Nat.zero_le _))
    have HV := hid (OwnR.mono hV (Nat.zero_le _))
    replace HY := hid (HY.out.chg hG fun _ _ h => h)
    have HG := hid hG
    have hFR := hid (fun w ho hv => FreeRoomS_calls w (.slice a1 xs.length c1) (.slice a2 ls.length c2) xs ls ho hv hp)
    have hLI := hid (fun room h1 h2 w ho hv => LendRoom_calls w (.slice a1 xs.length c1) (.slice a2 ls.length c2) xs ls room ho hv hp h1 h2)
    have hLS := hid (fun room h1 h2 w ho hv => LendRoomS_calls w (.slice a1 xs.length c1) (.slice a2 ls.length c2) xs ls room ho hv hp h1 h2)
    have hCI := hid (fun k cut h1 h2 w ho hv => CutLease_calls w (.slice a1 xs.length c1) (.slice a2 ls.length c2) xs ls k cut ho hv hp h1 h2)
    have hCS := hid (fun k cut h2 w ho hv => CutLeaseS_calls w (.slice a1 xs.length c1) (.slice a2 ls.length c2) xs ls k cut ho hv hp h2)
    have hWS := hid (fun k w ho hv => WindowOfS_calls w (.slice a1 xs.length c1) (.slice a2 ls.length c2) xs ls k ho hv hp)
    have HLF := hid (fun room r (h : lendP xs ls room = some r) => lend_facts hp h)
    have HLO := hid (fun room r (h1 : 1 ≤ room) (h : lendP xs ls room = some r) => lendP_ok hp h1 h)
    have HCO := hid (fun k cut r (h : cutP xs ls k cut = some r) => cutP_ok hp h)
    clear hp hO hV hG
    generalize hn : xs.length = n at *
    generalize hm : ls.length = m at *
    have HN := hid hn
    have HM := hid hm
    clear hn hm
    have A1 := (Chg.refl (fun _ => False) w1).alloc (.cells #[.slice a1 n c1, .slice a2 m c2] 67)
    have R3 := hid (heap_new w1 (.cells #[.slice a1 n c1, .slice a2 m c2] 67))
    replace HO := hid (HO.out.chg A1 fun _ _ _ h => h)
    replace HV := hid (HV.out.chg A1 fun _ _ _ h => h)
    replace HY := hid (HY.out.chg A1 fun _ _ h => h)
    replace HG := hid (HG.out.trans A1 fun _ _ h => h)
    clear A1
    go_upto_region 4 with fail
    generalize w1.alloc (.cells #[.slice a1 n c1, .slice a2 m c2] 67) = w2 at *
    generalize w1.heap.size = b3 at *
    go_wp2_with fail
    refine (at_calls _ _ _ _ (by obtain ⟨h1, h2, h3⟩ := HY.out; exact ⟨h1, h2, fun k hk => by obtain ⟨b, off, z, h4, h5, h6⟩ := h3 k hk; exact ⟨b, off, z, h4, by have := HG.out.size; omega, h6⟩⟩) 1 (by omega)).mono ?_
    rintro e w2' ⟨x1, hx1, rfl, rfl⟩
    have kR3 := cells_at R3.out
    go_upto_region 5 with fail
    obtain ⟨room, hroom⟩ : ∃ room : Nat, (room : Int) = 1 + (x1 : Int) % 9 := ⟨1 + x1 % 9, by omega⟩
    rw [← hroom]
    have hr1 : 1 ≤ room := by omega
    have hr9 : room ≤ 9 := by omega
    clear hroom hx1
    go_wp2_with fail
    refine (hFR.out _ HO.out HV.out).mono ?_
    rintro e w3 ⟨rfl, hG⟩
    replace HO := hid (HO.out.chg hG fun _ _ _ h => h)
    replace HV := hid (HV.out.chg hG fun _ _ _ h => h)
    replace R3 := hid (hG.heap R3.out (fun h => h))
    replace HY := hid (HY.out.chg hG fun _ _ h => h)
    replace HG := hid (HG.out.trans hG fun _ _ h => h)
    clear hG kR3
    have kR3 := cells_at R3.out
    have hFL : ∃ xs1 ls1 id1 ok1, flat (lendP xs ls room) = (xs1, ls1, id1, ok1) := ⟨_, _, _, _, rfl⟩
    obtain ⟨xs1, ls1, id1, ok1, hfl⟩ := hFL
    have hLI2 := hLI.out room hr1 (by omega)
    have hLS2 := hLS.out room hr1 (by omega)
    have HLI := hid (fun w ho hv => (hLI2 w ho hv).mono (fun e w' h => (rpk_flat h : RFlat w (flat (lendP xs ls room)) e w')))
    have HLS := hid (fun w ho hv => (hLS2 w ho hv).mono (fun e w' h => (rpk_flat h : RFlat w (flat (lendP xs ls room)) e w')))
    have HLN := hid (fun (h : (flat (lendP xs ls room)).2.2.2 = true) => flat_some h)
    rw [hfl] at HLI HLS HLN
    clear hLI2 hLS2 hLI hLS hfl
    go_wp2_with fail
    refine (HLI.out _ HO.out HV.out).mono ?_
    rintro e w4 ⟨a4, c4, b4, d4, he, hO1, hV1, hG⟩
    dsimp only at he hO1 hV1
    subst he
    have HO1 := hid (hO1.mono (Nat.zero_le _))
    have HV1 := hid (OwnR.mono hV1 (Nat.zero_le _))
    have R7 := hid (heap_new w4 (.cells #[.slice a4 xs1.length c4, .slice b4 ls1.length d4] 67))
    replace HO := hid (HO.out.chg hG fun _ _ _ h => h)
    replace HV := hid (HV.out.chg hG fun _ _ _ h => h)
    replace R3 := hid (hG.heap R3.out (fun h => h))
    replace HY := hid (HY.out.chg hG fun _ _ h => h)
    replace HG := hid (HG.out.trans hG fun _ _ h => h)
    clear hG kR3 hO1 hV1 HLI
    have A1 := (Chg.refl (fun _ => False) w4).alloc (.cells #[.slice a4 xs1.length c4, .slice b4 ls1.length d4] 67)
    replace HO := hid (HO.out.chg A1 fun _ _ _ h => h)
    replace HV := hid (HV.out.chg A1 fun _ _ _ h => h)
    replace R3 := hid (A1.heap R3.out (fun h => h))
    replace HY := hid (HY.out.chg A1 fun _ _ h => h)
    replace HG := hid (HG.out.trans A1 fun _ _ h => h)
    replace HO1 := hid (HO1.out.chg A1 fun _ _ _ h => h)
    replace HV1 := hid (HV1.out.chg A1 fun _ _ _ h => h)
    clear A1
    go_upto_region 7 with fail
    generalize w4.alloc (.cells #[.slice a4 xs1.length c4, .slice b4 ls1.length d4] 67) = w5 at *
    generalize w4.heap.size = b7 at *
    have kR3 := cells_at R3.out
    go_wp2_with fail
    refine (HLS.out _ HO.out HV.out).mono ?_
    rintro e w6 ⟨a6, c6, b6, d6, he, hO2, hV2, hG⟩
    dsimp only at he
    subst he
    clear hO2 hV2 HLS
    replace HO := hid (HO.out.chg hG fun _ _ _ h => h)
    replace HV := hid (HV.out.chg hG fun _ _ _ h => h)
    replace R3 := hid (hG.heap R3.out (fun h => h))
    replace HY := hid (HY.out.chg hG fun _ _ h => h)
    replace HG := hid (HG.out.trans hG fun _ _ h => h)
    replace HO1 := hid (HO1.out.chg hG fun _ _ _ h => h)
    replace HV1 := hid (HV1.out.chg hG fun _ _ _ h => h)
    replace R7 := hid (hG.heap R7.out (fun h => h))
    clear hG kR3
    have A1 := (Chg.refl (fun _ => False) w6).alloc (.cells #[.slice a6 xs1.length c6, .slice b6 ls1.length d6] 67)
    replace HO := hid (HO.out.chg A1 fun _ _ _ h => h)
    replace HV := hid (HV.out.chg A1 fun _ _ _ h => h)
    replace R3 := hid (A1.heap R3.out (fun h => h))
    replace HY := hid (HY.out.chg A1 fun _ _ h => h)
    replace HG := hid (HG.out.trans A1 fun _ _ h => h)
    replace HO1 := hid (HO1.out.chg A1 fun _ _ _ h => h)
    replace HV1 := hid (HV1.out.chg A1 fun _ _ _ h => h)
    replace R7 := hid (A1.heap R7.out (fun h => h))
    clear A1
    go_upto_region 8 with fail
    generalize w6.alloc (.cells #[.slice a6 xs1.length c6, .slice b6 ls1.length d6] 67) = w7 at *
    go_cut [76] (fun r76 wx => r76 = .bool false ∧ Hid (Chg (fun _ => False) w7 wx))
    case first =>
      cases ok1 with
      | false =>
        go_wp2_with fail
        go_meet
        exact ⟨rfl, hid (Chg.refl _ _)⟩
      | true =>
        have hL := HLN.out rfl
        obtain ⟨hb, hw, hgv, r2, hl2, hid2⟩ := HLF.out room _ hL
        obtain ⟨hok, hlen⟩ := HLO.out room _ hr1 hL
        clear hlen
        obtain ⟨xs3, ls3, id3⟩ := r2
        dsimp only at hb hw hgv hl2 hid2 hok
        obtain rfl : id3 = id1 := hid2
        obtain ⟨ls2, hls2⟩ : ∃ l, l = ls1.set id3 Ls.free := ⟨_, rfl⟩
        rw [← hls2] at hgv hl2
        clear hls2
        have hok2 := (giveP_ok hok hgv).1
        dsimp only at hok2
        have hok3 := (lendP_ok hok2 hr1 hl2).1
        dsimp only at hok3
        have l1 := hok.nle
        have l2 := hok.len
        have l3 := hok3.nle
        have l4 := hok3.len
        have hIP := hid (fun w s v ho hv => IsPoolS_calls w s v xs1 ls1 ho hv hok)
        have d1 : decide (((best (cv ls) n : Nat) : Int) < (room : Int)) = false := by simp; omega
        have d2 : ¬ (((best (cv ls) n : Nat) : Int) < (room : Int)) := by omega
        clear hw hgv hl2 hok hok2 hok3 hb HLF HLO HLN hL
        have kR7 := cells_at R7.out
        go_wp2_with fail
        refine (hIP.out _ _ _ HO1.out HV1.out).mono ?_
        rintro e w8 ⟨rfl, hG⟩
        go_wp2_with fail
        go_meet
        exact ⟨rfl, hid hG⟩
    case rest =>
      obtain ⟨rfl, GQ⟩ := hcut
      obtain ⟨wl, rfl⟩ : ∃ wl : World, wl = wc := ⟨_, rfl⟩
      have hG := GQ.out
      replace HO := hid (HO.out.chg hG fun _ _ _ h => h)
      replace HV := hid (HV.out.chg hG fun _ _ _ h => h)
      replace R3 := hid (hG.heap R3.out (fun h => h))
      replace HY := hid (HY.out.chg hG fun _ _ h => h)
      replace HG := hid (HG.out.trans hG fun _ _ h => h)
      replace HO1 := hid (HO1.out.chg hG fun _ _ _ h => h)
      replace HV1 := hid (HV1.out.chg hG fun _ _ _ h => h)
      replace R7 := hid (hG.heap R7.out (fun h => h))
      clear hG GQ
      go_upto_if 77 with fail
      go_cut [] (fun wx => Hid (Chg (fun _ => False) wl wx))
      case first =>
        cases ok1 with
        | false =>
          go_wp2_with fail
          go_meet
          exact hid (Chg.refl _ _)
        | true =>
          as_aux_lemma =>
            have hL := HLN.out rfl
            obtain ⟨hb, hw, hgv, r2, hl2, hid2⟩ := HLF.out room _ hL
            obtain ⟨hok, hlen⟩ := HLO.out room _ hr1 hL
            clear hlen
            obtain ⟨xs3, ls3, id3⟩ := r2
            dsimp only at hb hw hgv hl2 hid2 hok
            obtain rfl : id3 = id1 := hid2
            obtain ⟨ls2, hls2⟩ : ∃ l, l = ls1.set id3 Ls.free := ⟨_, rfl⟩
            rw [← hls2] at hgv hl2
            clear hls2
            have hok2 := (giveP_ok hok hgv).1
            dsimp only at hok2
            have hok3 := (lendP_ok hok2 hr1 hl2).1
            dsimp only at hok3
            have l1 := hok.nle
            have l2 := hok.len
            have l3 := hok3.nle
            have l4 := hok3.len
            have hWI := hid (fun w s v ho hv => WindowOf_calls w s v xs1 ls1 id3 ho hv hok)
            have hGB := hid (fun w s v ho hv => GiveBack_calls w s v xs1 ls1 id3 ho hv hok)
            have hL2 := hid (fun w s v ho hv => LendRoom_calls w s v xs1 ls2 room ho hv hok2 hr1 (by omega))
            have hI3 := hid (fun w s v ho hv => IsPoolS_calls w s v xs3 ls3 ho hv hok3)
            rw [hw] at hWI
            rw [hgv] at hGB
            rw [hl2] at hL2
            clear hw hgv hl2 hok hok2 hok3 hb HLF HLO HLN hL
            have GX := hid (Chg.refl (fun _ => False) wl)
            have kR7 := cells_at R7.out
            go_wp2_with fail
            refine (hWI.out _ _ _ HO1.out HV1.out).mono ?_
            rintro e w9 ⟨hG, a7, c7, rfl, hW⟩
            simp only [List.length_nil] at hW ⊢
            clear hW hWI
            replace HO1 := hid (HO1.out.chg hG fun _ _ _ h => h)
            replace HV1 := hid (HV1.out.chg hG fun _ _ _ h => h)
            replace R7 := hid (hG.heap R7.out (fun h => h))
            replace GX := hid (GX.out.trans hG fun _ _ h => h)
            clear hG kR7
            have kR7 := cells_at R7.out
            go_wp2_with fail
            refine (hGB.out _ _ _ HO1.out HV1.out).mono ?_
            rintro e w10 ⟨hG, a8, c8, b8, d8, he, hO2, hV2⟩
            dsimp only at he hO2 hV2
            subst he
            have HO2 := hid (hO2.mono (Nat.zero_le _))
            have HV2 := hid (OwnR.mono hV2 (Nat.zero_le _))
            have R15 := hid (heap_new w10 (.cells #[.slice a8 xs1.length c8, .slice b8 ls2.length d8] 67))
            replace GX := hid (GX.out.trans hG fun _ _ h => h)
            clear hG kR7 hO2 hV2 hGB HO1 HV1 R7
            have A1 := (Chg.refl (fun _ => False) w10).alloc (.cells #[.slice a8 xs1.length c8, .slice b8 ls2.length d8] 67)
            replace GX := hid (GX.out.trans A1 fun _ _ h => h)
            replace HO2 := hid (HO2.out.chg A1 fun _ _ _ h => h)
            replace HV2 := hid (HV2.out.chg A1 fun _ _ _ h => h)
            clear A1
            go_upto_region 13 with fail
            generalize w10.alloc (.cells #[.slice a8 xs1.length c8, .slice b8 ls2.length d8] 67) = w11 at *
            generalize w10.heap.size = b15 at *
            have kR15 := cells_at R15.out
            go_wp2_with fail
            refine (hL2.out _ _ _ HO2.out HV2.out).mono ?_
            rintro e w12 ⟨hG, a9, c9, b9, d9, he, hO3, hV3⟩
            dsimp only at he hO3 hV3
            subst he
            have HO3 := hid (hO3.mono (Nat.zero_le _))
            have HV3 := hid (OwnR.mono hV3 (Nat.zero_le _))
            have R17 := hid (heap_new w12 (.cells #[.slice a9 xs3.length c9, .slice b9 ls3.length d9] 67))
            replace GX := hid (GX.out.trans hG fun _ _ h => h)
            clear hG kR15 hO3 hV3 hL2 HO2 HV2 R15
            have A1 := (Chg.refl (fun _ => False) w12).alloc (.cells #[.slice a9 xs3.length c9, .slice b9 ls3.length d9] 67)
            replace GX := hid (GX.out.trans A1 fun _ _ h => h)
            replace HO3 := hid (HO3.out.chg A1 fun _ _ _ h => h)
            replace HV3 := hid (HV3.out.chg A1 fun _ _ _ h => h)
            clear A1
            go_upto_region 14 with fail
            generalize w12.alloc (.cells #[.slice a9 xs3.length c9, .slice b9 ls3.length d9] 67) = w13 at *
            generalize w12.heap.size = b17 at *
            have kR17 := cells_at R17.out
            go_wp2_with fail
            refine (hI3.out _ _ _ HO3.out HV3.out).mono ?_
            rintro e w14 ⟨rfl, hG⟩
            go_wp2_with fail
            go_meet
            exact hid (GX.out.trans hG fun _ _ h => h)
      case rest =>
        obtain ⟨wk, rfl⟩ : ∃ wk : World, wk = wc := ⟨_, rfl⟩
        have hG := hcut.out
        replace HO := hid (HO.out.chg hG fun _ _ _ h => h)
        replace HV := hid (HV.out.chg hG fun _ _ _ h => h)
        replace R3 := hid (hG.heap R3.out (fun h => h))
        replace HY := hid (HY.out.chg hG fun _ _ h => h)
        replace HG := hid (HG.out.trans hG fun _ _ h => h)
        clear hG hcut HO1 HV1 R7 HLF HLO HLN
        go_upto_region 16 with fail
        obtain ⟨wb, rfl⟩ : ∃ wb : World, wb = wk := ⟨_, rfl⟩
        obtain ⟨x2, hx2⟩ := AtIs.of HY.out 2
        obtain ⟨x3, hx3⟩ := AtIs.of HY.out 3
        have u2 := hx2.1
        have u3 := hx3.1
        have hAt2 := hid (fun wx (G : Chg (fun _ => False) wb wx) => at_val wx w.heap.size a len cap 2 x2 hbig (by omega) (hx2.chg G))
        have hAt3 := hid (fun wx (G : Chg (fun _ => False) wb wx) => at_val wx w.heap.size a len cap 3 x3 hbig (by omega) (hx3.chg G))
        clear hx2 hx3 HY
        have w1' : IntKind.i64.wrap ((m : Int) + 1) = (m : Int) + 1 := by rw [IntKind.wrap_i64]; omega
        have w2' : ¬ ((m : Int) + 1 = 0) := by omega
        have w3' : 0 < (m : Int) + 1 := by omega
        have w4' : (0 : Int) ≤ (x2 : Int) := by omega
        have y1 : wb.cell? ⟨b3, 1, none⟩ = some (.slice a2 m c2) := cell_at R3.out
        go_region_held3 (fun wx => wx.cell? ⟨b3, 1, none⟩ = some (.slice a2 m c2)) (first | (with_reducible assumption) | go_keep) (first | (go_at_call 56; refine (hAt2.out _ (Chg.refl _ wb).drew).mono ?_; rintro e w' ⟨rfl, rfl⟩))
        go_wp2_with fail
        obtain ⟨k, hk⟩ : ∃ k : Nat, (k : Int) = (x2 : Int).tmod ((m : Int) + 1) := ⟨x2 % (m + 1), by rw [Int.tmod_eq_emod_of_nonneg w4']; first | rfl | simp | (push_cast; rfl)⟩
        rw [← hk]
        obtain ⟨cut, hcut⟩ : ∃ cut : Nat, (cut : Int) = 1 + (x3 : Int) % 4 := ⟨1 + x3 % 4, by omega⟩
        have hc1 : 1 ≤ cut := by omega
        have hc9 : cut ≤ 1000 := by omega
        have A1 := (Chg.refl (fun _ => False) wb).drew
        have hAt := hid (fun wx (G : Chg (fun _ => False) wb.drew wx) => hAt3.out wx (A1.trans G fun _ _ h => h))
        clear hk w1' w2' w3' w4' y1 u2 hAt2 hAt3
        replace HO := hid (HO.out.chg A1 fun _ _ _ h => h)
        replace HV := hid (HV.out.chg A1 fun _ _ _ h => h)
        replace R3 := hid (A1.heap R3.out (fun h => h))
        replace HG := hid (HG.out.trans A1 fun _ _ h => h)
        clear A1
        generalize wb.drew = wz at *
        have hCI2 := hid (fun q wx (e : q = (cut : Int)) (G : Chg (fun _ => False) wz wx) => (show Calls Try.prog 77 #[.agg #[.slice a1 n c1, .slice a2 m c2], .int .i64 (k : Int), .int .i64 q] wx _ from e ▸ (hCI.out k cut hc1 hc9 wx (HO.out.chg G fun _ _ _ h => h) (HV.out.chg G fun _ _ _ h => h)).mono (fun e w' h => (⟨rpk_flat h, G.trans h.1 fun _ _ h => h⟩ : RFlat wx (flat (cutP xs ls k cut)) e w' ∧ Chg (fun _ => False) wz w'))))
        have HCF := hid (fun r (h : cutP xs ls k cut = some r) => cut_facts h)
        have HFO := hid (show POk (flat (cutP xs ls k cut)).1.length (flat (cutP xs ls k cut)).2.1 from flat_ok (fun r h => (HCO.out k cut r h).1))
        have HCN := hid (fun (h : (flat (cutP xs ls k cut)).2.2.2 = true) => flat_some h)
        have hFL : ∃ xs5 ls5 id5 ok5, flat (cutP xs ls k cut) = (xs5, ls5, id5, ok5) := ⟨_, _, _, _, rfl⟩
        obtain ⟨xs5, ls5, id5, ok5, hfl⟩ := hFL
        have HFL := hid hfl
        rw [hfl] at HFO HCN
        have hCI3 := hCI2
        rw [hfl] at hCI3
        clear hfl hCI2 hCI
        have x0 : wz.cell? ⟨b3, 0, none⟩ = some (.slice a1 n c1) := cell_at R3.out
        have x1' : wz.cell? ⟨b3, 1, none⟩ = some (.slice a2 m c2) := cell_at R3.out
        go_cut [21, 22, 23] (fun r21 r22 r23 wx => ∃ bq a5 c5 b5 d5, r21 = .pointer (some ⟨bq, 0, none⟩) ∧ r22 = .int .i64 (id5 : Int) ∧ r23 = .bool ok5 ∧ Hid (wx.heap[bq]? = some (.cells #[.slice a5 xs5.length c5, .slice b5 ls5.length d5] 67 (0, 0))) ∧ Hid (OwnC wx 0 (.slice a5 xs5.length c5) xs5) ∧ Hid (OwnL wx 0 (.slice b5 ls5.length d5) ls5) ∧ Hid (Chg (fun _ => False) wz wx))
        case first =>
          as_aux_lemma =>
            refine wp_region_held_drew (S := fun wx => Chg (fun _ => False) wz wx) (by kernel_rfl) ((Chg.refl _ wz).drew) (fun hH => ?_)
            have zd : wz.heap.size ≤ wz.drew.heap.size := Nat.le_refl _
            generalize wz.drew = wd at *
            refine wpAnyH_take (i := 0) (v := ?_) (oi := { dst := some 130, op := Op.load 67 (Operand.tmp 3), type := _, pos := _, after := _, guard := none }) rfl (by kernel_rfl) (by kernel_rfl) (by kernel_rfl) (fun _ _ _ h => h) (Or.inl ⟨by kernel_rfl, ?_⟩) (by assumption) ?_
            rotate_left
            · (intro wx hSw; (try dsimp only at hSw); have y0 := hSw.cell x0 (fun h => h); have y1 := hSw.cell x1' (fun h => h); go_simp) <;> with_reducible rfl
            try simp only [Act.put, List.setIfInBounds_toArray, List.set_cons_zero, List.set_cons_succ]
            refine wpAnyH_take (i := 1) (v := ?_) (oi := { dst := some 131, op := Op.move (Operand.tmp 20), type := _, pos := _, after := _, guard := none }) rfl (by kernel_rfl) (by kernel_rfl) (by kernel_rfl) (fun _ _ _ h => h) (Or.inl ⟨by kernel_rfl, ?_⟩) (by assumption) ?_
            rotate_left
            · (intro wx hSw; (try dsimp only at hSw); go_simp) <;> with_reducible rfl
            try simp only [Act.put, List.setIfInBounds_toArray, List.set_cons_zero, List.set_cons_succ]
            refine wpAnyH_take (i := 2) (v := ?_) (oi := { dst := some 132, op := Op.move (Operand.tmp 0), type := _, pos := _, after := _, guard := none }) rfl (by kernel_rfl) (by kernel_rfl) (by kernel_rfl) (fun _ _ _ h => h) (Or.inl ⟨by kernel_rfl, ?_⟩) (by assumption) ?_
            rotate_left
            · (intro wx hSw; (try dsimp only at hSw); go_simp) <;> with_reducible rfl
            try simp only [Act.put, List.setIfInBounds_toArray, List.set_cons_zero, List.set_cons_succ]
            refine wpAnyH_ready (rs := [3, 11]) (by kernel_rfl) (by simp) ?_
            refine (AllReadyH.cons rfl (fun K hK => ?_) (AllReadyH.cons rfl (fun K hK => ?_) AllReadyH.nil))
            · go_simp
              refine (hAt.out _ hH).mono ?_
              rintro e w' ⟨rfl, rfl⟩
              go_wp2_with fail
              refine hK.out _ _ hH (fun hHA => ?_)
              clear hK K hHA
              try simp only [Act.put, List.setIfInBounds_toArray, List.set_cons_zero, List.set_cons_succ]
              refine wpAnyH_take (i := 4) (v := ?_) (oi := { dst := some 134, op := Op.binOp BinOp.rem 3 (Operand.tmp 133) (Operand.const (Value.int IntKind.i64 4)) 3, type := _, pos := _, after := _, guard := none }) rfl (by kernel_rfl) (by kernel_rfl) (by kernel_rfl) (fun _ _ _ h => h) (Or.inl ⟨by kernel_rfl, ?_⟩) (by assumption) ?_
              rotate_left
              · (intro wx hSw; (try dsimp only at hSw); go_simp) <;> with_reducible rfl
              try simp only [Act.put, List.setIfInBounds_toArray, List.set_cons_zero, List.set_cons_succ]
              refine wpAnyH_take (i := 5) (v := ?_) (oi := { dst := some 135, op := Op.binOp BinOp.add 3 (Operand.const (Value.int IntKind.i64 1)) (Operand.tmp 134) 3, type := _, pos := _, after := _, guard := none }) rfl (by kernel_rfl) (by kernel_rfl) (by kernel_rfl) (fun _ _ _ h => h) (Or.inl ⟨by kernel_rfl, ?_⟩) (by assumption) ?_
              rotate_left
              · (intro wx hSw; (try dsimp only at hSw); go_simp) <;> with_reducible rfl
              try simp only [Act.put, List.setIfInBounds_toArray, List.set_cons_zero, List.set_cons_succ]
              refine wpAnyH_ready (rs := [6, 11]) (by kernel_rfl) (by simp) ?_
              refine (AllReadyH.cons rfl (fun K hK => ?_) (AllReadyH.cons rfl (fun K hK => ?_) AllReadyH.nil))
              · go_simp
                refine (hCI3.out _ _ (by (try rw [Int.tmod_eq_emod_of_nonneg (by omega : (0 : Int) ≤ (x3 : Int))]); (try rw [IntKind.wrap_i64]); omega) hH).mono ?_
                rintro e wdC ⟨⟨a5, c5, b5, d5, rfl, hO5, hV5, hG5⟩, G24⟩
                go_wp2_with fail
                refine hK.out _ _ G24 (fun hHC => ?_)
                clear hK K
                try simp only [Act.put, List.setIfInBounds_toArray, List.set_cons_zero, List.set_cons_succ]
                have HO5 := hid hO5
                have HV5 := hid hV5
                have lC := hG5.size
                clear hO5 hV5 hG5 G24
                refine wpAnyH_take (i := 7) (v := ?_) (oi := { dst := some 129, op := Op.move (Operand.tmp 136), type := _, pos := _, after := _, guard := none }) rfl (by kernel_rfl) (by kernel_rfl) (by kernel_rfl) (fun _ _ _ h => h) (Or.inl ⟨by kernel_rfl, ?_⟩) (by assumption) ?_
                rotate_left
                · (intro wx hSw; (try dsimp only at hSw); go_simp) <;> with_reducible rfl
                try simp only [Act.put, List.setIfInBounds_toArray, List.set_cons_zero, List.set_cons_succ]
                refine wpAnyH_take (i := 8) (v := ?_) (oi := { dst := some 137, op := Op.extract (Operand.tmp 129) 0, type := _, pos := _, after := _, guard := none }) rfl (by kernel_rfl) (by kernel_rfl) (by kernel_rfl) (fun _ _ _ h => h) (Or.inl ⟨by kernel_rfl, ?_⟩) (by assumption) ?_
                rotate_left
                · (intro wx hSw; (try dsimp only at hSw); go_simp) <;> with_reducible rfl
                try simp only [Act.put, List.setIfInBounds_toArray, List.set_cons_zero, List.set_cons_succ]
                refine wpAnyH_take (i := 9) (v := ?_) (oi := { dst := some 138, op := Op.extract (Operand.tmp 129) 1, type := _, pos := _, after := _, guard := none }) rfl (by kernel_rfl) (by kernel_rfl) (by kernel_rfl) (fun _ _ _ h => h) (Or.inl ⟨by kernel_rfl, ?_⟩) (by assumption) ?_
                rotate_left
                · (intro wx hSw; (try dsimp only at hSw); go_simp) <;> with_reducible rfl
                try simp only [Act.put, List.setIfInBounds_toArray, List.set_cons_zero, List.set_cons_succ]
                refine wpAnyH_take (i := 10) (v := ?_) (oi := { dst := some 139, op := Op.extract (Operand.tmp 129) 2, type := _, pos := _, after := _, guard := none }) rfl (by kernel_rfl) (by kernel_rfl) (by kernel_rfl) (fun _ _ _ h => h) (Or.inl ⟨by kernel_rfl, ?_⟩) (by assumption) ?_
                rotate_left
                · (intro wx hSw; (try dsimp only at hSw); go_simp) <;> with_reducible rfl
                try simp only [Act.put, List.setIfInBounds_toArray, List.set_cons_zero, List.set_cons_succ]
                refine wpAnyH_ready (rs := [11]) (by kernel_rfl) (by simp) ?_
                refine (AllReadyH.cons rfl (fun K hK => ?_) AllReadyH.nil)
                go_simp
                refine hK.out _ _ (hHC.alloc _) (fun hHCP => ?_)
                clear hK K
                try simp only [Act.put, List.setIfInBounds_toArray, List.set_cons_zero, List.set_cons_succ]
                have zP := hHC.size
                have RP := hid (heap_new wdC (.cells #[.slice none 0 0, .slice none 0 0] 67))
                have zB : wdC.heap.size < (wdC.alloc (.cells #[.slice none 0 0, .slice none 0 0] 67)).heap.size := by simp
                have D4 := hid (fun g (h : some g = (Value.slice a5 xs5.length c5).ownBlock) => show g ≠ wdC.heap.size by have := (HO5.out.own_lt h).2; omega)
                have D5 := hid (fun g (h : some g = (Value.slice b5 ls5.length d5).ownBlock) => show g ≠ wdC.heap.size by have := (OwnR.own_lt HV5.out h).2; omega)
                replace HO5 := hid (HO5.out.chg ((Chg.refl (fun _ => False) wdC).alloc (.cells #[.slice none 0 0, .slice none 0 0] 67)) fun _ _ _ h => h)
                replace HV5 := hid (HV5.out.chg ((Chg.refl (fun _ => False) wdC).alloc (.cells #[.slice none 0 0, .slice none 0 0] 67)) fun _ _ _ h => h)
                generalize wdC.alloc (.cells #[.slice none 0 0, .slice none 0 0] 67) = wdCP at *
                generalize wdC.heap.size = bq at *
                refine wpAnyH_ready (rs := [12]) (by kernel_rfl) (by simp) ?_
                refine (AllReadyH.cons rfl (fun K hK => ?_) AllReadyH.nil)
                have kP := cells_at RP.out
                have fP := frees_at RP.out
                go_simp
                have zbq : wz.heap.size ≤ bq := by omega
                refine hK.out _ _ ((hHCP.setCell (p := ⟨bq, 0, none⟩) (.inr zbq) _).setCell (p := ⟨bq, 1, none⟩) (.inr zbq) _) (fun hH9 => ?_)
                clear hK K
                try simp only [Act.put, List.setIfInBounds_toArray, List.set_cons_zero, List.set_cons_succ]
                have CV := chg_row2 wdCP bq (.slice a5 xs5.length c5) (.slice b5 ls5.length d5)
                replace HO5 := hid (HO5.out.chgN CV (fun g e1 e2 => D4.out g e1 e2))
                replace HV5 := hid (HV5.out.chgN CV (fun g e1 e2 => D5.out g e1 e2))
                replace RP := hid (heap_row2 RP.out (.slice a5 xs5.length c5) (.slice b5 ls5.length d5))
                clear CV kP fP
                generalize (wdCP.setCell ⟨bq, 0, none⟩ (.slice a5 xs5.length c5)).setCell ⟨bq, 1, none⟩ (.slice b5 ls5.length d5) = W9 at *
                refine wpAnyH_take (i := 13) (v := ?_) (oi := { dst := some 22, op := Op.assign (Operand.tmp 138), type := _, pos := _, after := _, guard := none }) rfl (by kernel_rfl) (by kernel_rfl) (by kernel_rfl) (fun _ _ _ h => h) (Or.inl ⟨by kernel_rfl, ?_⟩) (by assumption) ?_
                rotate_left
                · (intro wx hSw; (try dsimp only at hSw); go_simp) <;> with_reducible rfl
                try simp only [Act.put, List.setIfInBounds_toArray, List.set_cons_zero, List.set_cons_succ]
                refine wpAnyH_take (i := 14) (v := ?_) (oi := { dst := some 23, op := Op.assign (Operand.tmp 139), type := _, pos := _, after := _, guard := none }) rfl (by kernel_rfl) (by kernel_rfl) (by kernel_rfl) (fun _ _ _ h => h) (Or.inl ⟨by kernel_rfl, ?_⟩) (by assumption) ?_
                rotate_left
                · (intro wx hSw; (try dsimp only at hSw); go_simp) <;> with_reducible rfl
                try simp only [Act.put, List.setIfInBounds_toArray, List.set_cons_zero, List.set_cons_succ]
                refine wpAnyH_done (by kernel_rfl) ?_ _
                go_wp2_with fail
                go_meet
                exact ⟨bq, a5, c5, b5, d5, rfl, rfl, rfl, RP, hid (HO5.out.mono (Nat.zero_le _)), hid (OwnR.mono HV5.out (Nat.zero_le _)), hid (by assumption)⟩
              · go_simp
                refine hK.out _ _ (hH.alloc _) (fun hHP => ?_)
                clear hK K
                try simp only [Act.put, List.setIfInBounds_toArray, List.set_cons_zero, List.set_cons_succ]
                have zP := hH.size
                have RP := hid (heap_new wd (.cells #[.slice none 0 0, .slice none 0 0] 67))
                have zB : wd.heap.size < (wd.alloc (.cells #[.slice none 0 0, .slice none 0 0] 67)).heap.size := by simp
                generalize wd.alloc (.cells #[.slice none 0 0, .slice none 0 0] 67) = wdP at *
                generalize wd.heap.size = bq at *
                refine wpAnyH_ready (rs := [6]) (by kernel_rfl) (by simp) ?_
                refine (AllReadyH.cons rfl (fun K hK => ?_) AllReadyH.nil)
                go_simp
                refine (hCI3.out _ _ (by (try rw [Int.tmod_eq_emod_of_nonneg (by omega : (0 : Int) ≤ (x3 : Int))]); (try rw [IntKind.wrap_i64]); omega) hHP).mono ?_
                rintro e wdPC ⟨⟨a5, c5, b5, d5, rfl, hO5, hV5, hG5⟩, G24⟩
                go_wp2_with fail
                refine hK.out _ _ G24 (fun hHPC => ?_)
                clear hK K
                try simp only [Act.put, List.setIfInBounds_toArray, List.set_cons_zero, List.set_cons_succ]
                have HO5 := hid hO5
                have HV5 := hid hV5
                have lC := hG5.size
                replace RP := hid (hG5.heap RP.out (fun h => h))
                have D4 := hid (fun g (h : some g = (Value.slice a5 xs5.length c5).ownBlock) => show g ≠ bq by have := (hO5.own_lt h).1; omega)
                have D5 := hid (fun g (h : some g = (Value.slice b5 ls5.length d5).ownBlock) => show g ≠ bq by have := (OwnR.own_lt hV5 h).1; omega)
                clear hO5 hV5 hG5 G24
                refine wpAnyH_take (i := 7) (v := ?_) (oi := { dst := some 129, op := Op.move (Operand.tmp 136), type := _, pos := _, after := _, guard := none }) rfl (by kernel_rfl) (by kernel_rfl) (by kernel_rfl) (fun _ _ _ h => h) (Or.inl ⟨by kernel_rfl, ?_⟩) (by assumption) ?_
                rotate_left
                · (intro wx hSw; (try dsimp only at hSw); go_simp) <;> with_reducible rfl
                try simp only [Act.put, List.setIfInBounds_toArray, List.set_cons_zero, List.set_cons_succ]
                refine wpAnyH_take (i := 8) (v := ?_) (oi := { dst := some 137, op := Op.extract (Operand.tmp 129) 0, type := _, pos := _, after := _, guard := none }) rfl (by kernel_rfl) (by kernel_rfl) (by kernel_rfl) (fun _ _ _ h => h) (Or.inl ⟨by kernel_rfl, ?_⟩) (by assumption) ?_
                rotate_left
                · (intro wx hSw; (try dsimp only at hSw); go_simp) <;> with_reducible rfl
                try simp only [Act.put, List.setIfInBounds_toArray, List.set_cons_zero, List.set_cons_succ]
                refine wpAnyH_take (i := 9) (v := ?_) (oi := { dst := some 138, op := Op.extract (Operand.tmp 129) 1, type := _, pos := _, after := _, guard := none }) rfl (by kernel_rfl) (by kernel_rfl) (by kernel_rfl) (fun _ _ _ h => h) (Or.inl ⟨by kernel_rfl, ?_⟩) (by assumption) ?_
                rotate_left
                · (intro wx hSw; (try dsimp only at hSw); go_simp) <;> with_reducible rfl
                try simp only [Act.put, List.setIfInBounds_toArray, List.set_cons_zero, List.set_cons_succ]
                refine wpAnyH_take (i := 10) (v := ?_) (oi := { dst := some 139, op := Op.extract (Operand.tmp 129) 2, type := _, pos := _, after := _, guard := none }) rfl (by kernel_rfl) (by kernel_rfl) (by kernel_rfl) (fun _ _ _ h => h) (Or.inl ⟨by kernel_rfl, ?_⟩) (by assumption) ?_
                rotate_left
                · (intro wx hSw; (try dsimp only at hSw); go_simp) <;> with_reducible rfl
                try simp only [Act.put, List.setIfInBounds_toArray, List.set_cons_zero, List.set_cons_succ]
                refine wpAnyH_ready (rs := [12]) (by kernel_rfl) (by simp) ?_
                refine (AllReadyH.cons rfl (fun K hK => ?_) AllReadyH.nil)
                have kP := cells_at RP.out
                have fP := frees_at RP.out
                go_simp
                have zbq : wz.heap.size ≤ bq := by omega
                refine hK.out _ _ ((hHPC.setCell (p := ⟨bq, 0, none⟩) (.inr zbq) _).setCell (p := ⟨bq, 1, none⟩) (.inr zbq) _) (fun hH9 => ?_)
                clear hK K
                try simp only [Act.put, List.setIfInBounds_toArray, List.set_cons_zero, List.set_cons_succ]
                have CV := chg_row2 wdPC bq (.slice a5 xs5.length c5) (.slice b5 ls5.length d5)
                replace HO5 := hid (HO5.out.chgN CV (fun g e1 e2 => D4.out g e1 e2))
                replace HV5 := hid (HV5.out.chgN CV (fun g e1 e2 => D5.out g e1 e2))
                replace RP := hid (heap_row2 RP.out (.slice a5 xs5.length c5) (.slice b5 ls5.length d5))
                clear CV kP fP
                generalize (wdPC.setCell ⟨bq, 0, none⟩ (.slice a5 xs5.length c5)).setCell ⟨bq, 1, none⟩ (.slice b5 ls5.length d5) = W9 at *
                refine wpAnyH_take (i := 13) (v := ?_) (oi := { dst := some 22, op := Op.assign (Operand.tmp 138), type := _, pos := _, after := _, guard := none }) rfl (by kernel_rfl) (by kernel_rfl) (by kernel_rfl) (fun _ _ _ h => h) (Or.inl ⟨by kernel_rfl, ?_⟩) (by assumption) ?_
                rotate_left
                · (intro wx hSw; (try dsimp only at hSw); go_simp) <;> with_reducible rfl
                try simp only [Act.put, List.setIfInBounds_toArray, List.set_cons_zero, List.set_cons_succ]
                refine wpAnyH_take (i := 14) (v := ?_) (oi := { dst := some 23, op := Op.assign (Operand.tmp 139), type := _, pos := _, after := _, guard := none }) rfl (by kernel_rfl) (by kernel_rfl) (by kernel_rfl) (fun _ _ _ h => h) (Or.inl ⟨by kernel_rfl, ?_⟩) (by assumption) ?_
                rotate_left
                · (intro wx hSw; (try dsimp only at hSw); go_simp) <;> with_reducible rfl
                try simp only [Act.put, List.setIfInBounds_toArray, List.set_cons_zero, List.set_cons_succ]
                refine wpAnyH_done (by kernel_rfl) ?_ _
                go_wp2_with fail
                go_meet
                exact ⟨bq, a5, c5, b5, d5, rfl, rfl, rfl, RP, hid (HO5.out.mono (Nat.zero_le _)), hid (OwnR.mono HV5.out (Nat.zero_le _)), hid (by assumption)⟩
            · go_simp
              refine hK.out _ _ (hH.alloc _) (fun hHP => ?_)
              clear hK K
              try simp only [Act.put, List.setIfInBounds_toArray, List.set_cons_zero, List.set_cons_succ]
              have zP := hH.size
              have RP := hid (heap_new wd (.cells #[.slice none 0 0, .slice none 0 0] 67))
              have zB : wd.heap.size < (wd.alloc (.cells #[.slice none 0 0, .slice none 0 0] 67)).heap.size := by simp
              generalize wd.alloc (.cells #[.slice none 0 0, .slice none 0 0] 67) = wdP at *
              generalize wd.heap.size = bq at *
              refine wpAnyH_ready (rs := [3]) (by kernel_rfl) (by simp) ?_
              refine (AllReadyH.cons rfl (fun K hK => ?_) AllReadyH.nil)
              go_simp
              refine (hAt.out _ hHP).mono ?_
              rintro e w' ⟨rfl, rfl⟩
              go_wp2_with fail
              refine hK.out _ _ hHP (fun hHA => ?_)
              clear hK K hHA
              try simp only [Act.put, List.setIfInBounds_toArray, List.set_cons_zero, List.set_cons_succ]
              refine wpAnyH_take (i := 4) (v := ?_) (oi := { dst := some 134, op := Op.binOp BinOp.rem 3 (Operand.tmp 133) (Operand.const (Value.int IntKind.i64 4)) 3, type := _, pos := _, after := _, guard := none }) rfl (by kernel_rfl) (by kernel_rfl) (by kernel_rfl) (fun _ _ _ h => h) (Or.inl ⟨by kernel_rfl, ?_⟩) (by assumption) ?_
              rotate_left
              · (intro wx hSw; (try dsimp only at hSw); go_simp) <;> with_reducible rfl
              try simp only [Act.put, List.setIfInBounds_toArray, List.set_cons_zero, List.set_cons_succ]
              refine wpAnyH_take (i := 5) (v := ?_) (oi := { dst := some 135, op := Op.binOp BinOp.add 3 (Operand.const (Value.int IntKind.i64 1)) (Operand.tmp 134) 3, type := _, pos := _, after := _, guard := none }) rfl (by kernel_rfl) (by kernel_rfl) (by kernel_rfl) (fun _ _ _ h => h) (Or.inl ⟨by kernel_rfl, ?_⟩) (by assumption) ?_
              rotate_left
              · (intro wx hSw; (try dsimp only at hSw); go_simp) <;> with_reducible rfl
              try simp only [Act.put, List.setIfInBounds_toArray, List.set_cons_zero, List.set_cons_succ]
              refine wpAnyH_ready (rs := [6]) (by kernel_rfl) (by simp) ?_
              refine (AllReadyH.cons rfl (fun K hK => ?_) AllReadyH.nil)
              go_simp
              refine (hCI3.out _ _ (by (try rw [Int.tmod_eq_emod_of_nonneg (by omega : (0 : Int) ≤ (x3 : Int))]); (try rw [IntKind.wrap_i64]); omega) hHP).mono ?_
              rintro e wdPC ⟨⟨a5, c5, b5, d5, rfl, hO5, hV5, hG5⟩, G24⟩
              go_wp2_with fail
              refine hK.out _ _ G24 (fun hHPC => ?_)
              clear hK K
              try simp only [Act.put, List.setIfInBounds_toArray, List.set_cons_zero, List.set_cons_succ]
              have HO5 := hid hO5
              have HV5 := hid hV5
              have lC := hG5.size
              replace RP := hid (hG5.heap RP.out (fun h => h))
              have D4 := hid (fun g (h : some g = (Value.slice a5 xs5.length c5).ownBlock) => show g ≠ bq by have := (hO5.own_lt h).1; omega)
              have D5 := hid (fun g (h : some g = (Value.slice b5 ls5.length d5).ownBlock) => show g ≠ bq by have := (OwnR.own_lt hV5 h).1; omega)
              clear hO5 hV5 hG5 G24
              refine wpAnyH_take (i := 7) (v := ?_) (oi := { dst := some 129, op := Op.move (Operand.tmp 136), type := _, pos := _, after := _, guard := none }) rfl (by kernel_rfl) (by kernel_rfl) (by kernel_rfl) (fun _ _ _ h => h) (Or.inl ⟨by kernel_rfl, ?_⟩) (by assumption) ?_
              rotate_left
              · (intro wx hSw; (try dsimp only at hSw); go_simp) <;> with_reducible rfl
              try simp only [Act.put, List.setIfInBounds_toArray, List.set_cons_zero, List.set_cons_succ]
              refine wpAnyH_take (i := 8) (v := ?_) (oi := { dst := some 137, op := Op.extract (Operand.tmp 129) 0, type := _, pos := _, after := _, guard := none }) rfl (by kernel_rfl) (by kernel_rfl) (by kernel_rfl) (fun _ _ _ h => h) (Or.inl ⟨by kernel_rfl, ?_⟩) (by assumption) ?_
              rotate_left
              · (intro wx hSw; (try dsimp only at hSw); go_simp) <;> with_reducible rfl
              try simp only [Act.put, List.setIfInBounds_toArray, List.set_cons_zero, List.set_cons_succ]
              refine wpAnyH_take (i := 9) (v := ?_) (oi := { dst := some 138, op := Op.extract (Operand.tmp 129) 1, type := _, pos := _, after := _, guard := none }) rfl (by kernel_rfl) (by kernel_rfl) (by kernel_rfl) (fun _ _ _ h => h) (Or.inl ⟨by kernel_rfl, ?_⟩) (by assumption) ?_
              rotate_left
              · (intro wx hSw; (try dsimp only at hSw); go_simp) <;> with_reducible rfl
              try simp only [Act.put, List.setIfInBounds_toArray, List.set_cons_zero, List.set_cons_succ]
              refine wpAnyH_take (i := 10) (v := ?_) (oi := { dst := some 139, op := Op.extract (Operand.tmp 129) 2, type := _, pos := _, after := _, guard := none }) rfl (by kernel_rfl) (by kernel_rfl) (by kernel_rfl) (fun _ _ _ h => h) (Or.inl ⟨by kernel_rfl, ?_⟩) (by assumption) ?_
              rotate_left
              · (intro wx hSw; (try dsimp only at hSw); go_simp) <;> with_reducible rfl
              try simp only [Act.put, List.setIfInBounds_toArray, List.set_cons_zero, List.set_cons_succ]
              refine wpAnyH_ready (rs := [12]) (by kernel_rfl) (by simp) ?_
              refine (AllReadyH.cons rfl (fun K hK => ?_) AllReadyH.nil)
              have kP := cells_at RP.out
              have fP := frees_at RP.out
              go_simp
              have zbq : wz.heap.size ≤ bq := by omega
              refine hK.out _ _ ((hHPC.setCell (p := ⟨bq, 0, none⟩) (.inr zbq) _).setCell (p := ⟨bq, 1, none⟩) (.inr zbq) _) (fun hH9 => ?_)
              clear hK K
              try simp only [Act.put, List.setIfInBounds_toArray, List.set_cons_zero, List.set_cons_succ]
              have CV := chg_row2 wdPC bq (.slice a5 xs5.length c5) (.slice b5 ls5.length d5)
              replace HO5 := hid (HO5.out.chgN CV (fun g e1 e2 => D4.out g e1 e2))
              replace HV5 := hid (HV5.out.chgN CV (fun g e1 e2 => D5.out g e1 e2))
              replace RP := hid (heap_row2 RP.out (.slice a5 xs5.length c5) (.slice b5 ls5.length d5))
              clear CV kP fP
              generalize (wdPC.setCell ⟨bq, 0, none⟩ (.slice a5 xs5.length c5)).setCell ⟨bq, 1, none⟩ (.slice b5 ls5.length d5) = W9 at *
              refine wpAnyH_take (i := 13) (v := ?_) (oi := { dst := some 22, op := Op.assign (Operand.tmp 138), type := _, pos := _, after := _, guard := none }) rfl (by kernel_rfl) (by kernel_rfl) (by kernel_rfl) (fun _ _ _ h => h) (Or.inl ⟨by kernel_rfl, ?_⟩) (by assumption) ?_
              rotate_left
              · (intro wx hSw; (try dsimp only at hSw); go_simp) <;> with_reducible rfl
              try simp only [Act.put, List.setIfInBounds_toArray, List.set_cons_zero, List.set_cons_succ]
              refine wpAnyH_take (i := 14) (v := ?_) (oi := { dst := some 23, op := Op.assign (Operand.tmp 139), type := _, pos := _, after := _, guard := none }) rfl (by kernel_rfl) (by kernel_rfl) (by kernel_rfl) (fun _ _ _ h => h) (Or.inl ⟨by kernel_rfl, ?_⟩) (by assumption) ?_
              rotate_left
              · (intro wx hSw; (try dsimp only at hSw); go_simp) <;> with_reducible rfl
              try simp only [Act.put, List.setIfInBounds_toArray, List.set_cons_zero, List.set_cons_succ]
              refine wpAnyH_done (by kernel_rfl) ?_ _
              go_wp2_with fail
              go_meet
              exact ⟨bq, a5, c5, b5, d5, rfl, rfl, rfl, RP, hid (HO5.out.mono (Nat.zero_le _)), hid (OwnR.mono HV5.out (Nat.zero_le _)), hid (by assumption)⟩
        case rest =>
          obtain ⟨bq, a5, c5, b5, d5, rfl, rfl, rfl, RQ, HOQ, HVQ, GQ⟩ := hcut
          obtain ⟨wy, rfl⟩ : ∃ wy : World, wy = wc := ⟨_, rfl⟩
          have hG := GQ.out
          have hAu := hid (fun wx (G : Chg (fun _ => False) wy wx) => hAt.out wx (hG.trans G fun _ _ h => h))
          clear hAt
          have hAt := hAu
          replace HO := hid (HO.out.chg hG fun _ _ _ h => h)
          replace HV := hid (HV.out.chg hG fun _ _ _ h => h)
          replace R3 := hid (hG.heap R3.out (fun h => h))
          replace HG := hid (HG.out.trans hG fun _ _ h => h)
          clear hG GQ hAu hCI3 x0 x1'
          go_wp2_with fail
          have hCS2 := hid (fun q wx (e : q = (cut : Int)) (G : Chg (fun _ => False) wy wx) => (show Calls Try.prog 78 #[.agg #[.slice a1 n c1, .slice a2 m c2], .int .i64 (k : Int), .int .i64 q] wx _ from e ▸ (hCS.out k cut hc9 wx (HO.out.chg G fun _ _ _ h => h) (HV.out.chg G fun _ _ _ h => h)).mono (fun e w' h => (⟨rpk_flat h, G.trans h.1 fun _ _ h => h⟩ : RFlat wx (flat (cutP xs ls k cut)) e w' ∧ Chg (fun _ => False) wy w'))))
          have hCS3 := hCS2
          rw [HFL.out] at hCS3
          clear hCS2 hCS
          have x0 : wy.cell? ⟨b3, 0, none⟩ = some (.slice a1 n c1) := cell_at R3.out
          have x1' : wy.cell? ⟨b3, 1, none⟩ = some (.slice a2 m c2) := cell_at R3.out
          go_cut [26] (fun r26 wx => r26 = .bool ok5 ∧ Hid (Chg (fun _ => False) wy wx))
          case first =>
            as_aux_lemma =>
              refine wp_region_held_drew (S := fun wx => Chg (fun _ => False) wy wx) (by kernel_rfl) ((Chg.refl _ wy).drew) (fun hH => ?_)
              have zd : wy.heap.size ≤ wy.drew.heap.size := Nat.le_refl _
              generalize wy.drew = wd at *
              refine wpAnyH_take (i := 0) (v := ?_) (oi := { dst := some 141, op := Op.load 67 (Operand.tmp 3), type := _, pos := _, after := _, guard := none }) rfl (by kernel_rfl) (by kernel_rfl) (by kernel_rfl) (fun _ _ _ h => h) (Or.inl ⟨by kernel_rfl, ?_⟩) (by assumption) ?_
              rotate_left
              · (intro wx hSw; (try dsimp only at hSw); have y0 := hSw.cell x0 (fun h => h); have y1 := hSw.cell x1' (fun h => h); go_simp) <;> with_reducible rfl
              try simp only [Act.put, List.setIfInBounds_toArray, List.set_cons_zero, List.set_cons_succ]
              refine wpAnyH_take (i := 1) (v := ?_) (oi := { dst := some 142, op := Op.move (Operand.tmp 20), type := _, pos := _, after := _, guard := none }) rfl (by kernel_rfl) (by kernel_rfl) (by kernel_rfl) (fun _ _ _ h => h) (Or.inl ⟨by kernel_rfl, ?_⟩) (by assumption) ?_
              rotate_left
              · (intro wx hSw; (try dsimp only at hSw); go_simp) <;> with_reducible rfl
              try simp only [Act.put, List.setIfInBounds_toArray, List.set_cons_zero, List.set_cons_succ]
              refine wpAnyH_take (i := 2) (v := ?_) (oi := { dst := some 143, op := Op.move (Operand.tmp 0), type := _, pos := _, after := _, guard := none }) rfl (by kernel_rfl) (by kernel_rfl) (by kernel_rfl) (fun _ _ _ h => h) (Or.inl ⟨by kernel_rfl, ?_⟩) (by assumption) ?_
              rotate_left
              · (intro wx hSw; (try dsimp only at hSw); go_simp) <;> with_reducible rfl
              try simp only [Act.put, List.setIfInBounds_toArray, List.set_cons_zero, List.set_cons_succ]
              refine wpAnyH_ready (rs := [3, 11]) (by kernel_rfl) (by simp) ?_
              refine (AllReadyH.cons rfl (fun K hK => ?_) (AllReadyH.cons rfl (fun K hK => ?_) AllReadyH.nil))
              · go_simp
                refine (hAt.out _ hH).mono ?_
                rintro e w' ⟨rfl, rfl⟩
                go_wp2_with fail
                refine hK.out _ _ hH (fun hHA => ?_)
                clear hK K hHA
                try simp only [Act.put, List.setIfInBounds_toArray, List.set_cons_zero, List.set_cons_succ]
                refine wpAnyH_take (i := 4) (v := ?_) (oi := { dst := some 145, op := Op.binOp BinOp.rem 3 (Operand.tmp 144) (Operand.const (Value.int IntKind.i64 4)) 3, type := _, pos := _, after := _, guard := none }) rfl (by kernel_rfl) (by kernel_rfl) (by kernel_rfl) (fun _ _ _ h => h) (Or.inl ⟨by kernel_rfl, ?_⟩) (by assumption) ?_
                rotate_left
                · (intro wx hSw; (try dsimp only at hSw); go_simp) <;> with_reducible rfl
                try simp only [Act.put, List.setIfInBounds_toArray, List.set_cons_zero, List.set_cons_succ]
                refine wpAnyH_take (i := 5) (v := ?_) (oi := { dst := some 146, op := Op.binOp BinOp.add 3 (Operand.const (Value.int IntKind.i64 1)) (Operand.tmp 145) 3, type := _, pos := _, after := _, guard := none }) rfl (by kernel_rfl) (by kernel_rfl) (by kernel_rfl) (fun _ _ _ h => h) (Or.inl ⟨by kernel_rfl, ?_⟩) (by assumption) ?_
                rotate_left
                · (intro wx hSw; (try dsimp only at hSw); go_simp) <;> with_reducible rfl
                try simp only [Act.put, List.setIfInBounds_toArray, List.set_cons_zero, List.set_cons_succ]
                refine wpAnyH_ready (rs := [6, 11]) (by kernel_rfl) (by simp) ?_
                refine (AllReadyH.cons rfl (fun K hK => ?_) (AllReadyH.cons rfl (fun K hK => ?_) AllReadyH.nil))
                · go_simp
                  refine (hCS3.out _ _ (by (try rw [Int.tmod_eq_emod_of_nonneg (by omega : (0 : Int) ≤ (x3 : Int))]); (try rw [IntKind.wrap_i64]); omega) hH).mono ?_
                  rintro e wdC ⟨⟨a6, c6, b6, d6, rfl, hO5, hV5, hG5⟩, G24⟩
                  go_wp2_with fail
                  refine hK.out _ _ G24 (fun hHC => ?_)
                  clear hK K
                  try simp only [Act.put, List.setIfInBounds_toArray, List.set_cons_zero, List.set_cons_succ]
                  have HO5 := hid hO5
                  have HV5 := hid hV5
                  have lC := hG5.size
                  clear hO5 hV5 hG5 G24
                  refine wpAnyH_take (i := 7) (v := ?_) (oi := { dst := some 140, op := Op.move (Operand.tmp 147), type := _, pos := _, after := _, guard := none }) rfl (by kernel_rfl) (by kernel_rfl) (by kernel_rfl) (fun _ _ _ h => h) (Or.inl ⟨by kernel_rfl, ?_⟩) (by assumption) ?_
                  rotate_left
                  · (intro wx hSw; (try dsimp only at hSw); go_simp) <;> with_reducible rfl
                  try simp only [Act.put, List.setIfInBounds_toArray, List.set_cons_zero, List.set_cons_succ]
                  refine wpAnyH_take (i := 8) (v := ?_) (oi := { dst := some 148, op := Op.extract (Operand.tmp 140) 0, type := _, pos := _, after := _, guard := none }) rfl (by kernel_rfl) (by kernel_rfl) (by kernel_rfl) (fun _ _ _ h => h) (Or.inl ⟨by kernel_rfl, ?_⟩) (by assumption) ?_
                  rotate_left
                  · (intro wx hSw; (try dsimp only at hSw); go_simp) <;> with_reducible rfl
                  try simp only [Act.put, List.setIfInBounds_toArray, List.set_cons_zero, List.set_cons_succ]
                  refine wpAnyH_take (i := 9) (v := ?_) (oi := { dst := some 149, op := Op.extract (Operand.tmp 140) 1, type := _, pos := _, after := _, guard := none }) rfl (by kernel_rfl) (by kernel_rfl) (by kernel_rfl) (fun _ _ _ h => h) (Or.inl ⟨by kernel_rfl, ?_⟩) (by assumption) ?_
                  rotate_left
                  · (intro wx hSw; (try dsimp only at hSw); go_simp) <;> with_reducible rfl
                  try simp only [Act.put, List.setIfInBounds_toArray, List.set_cons_zero, List.set_cons_succ]
                  refine wpAnyH_take (i := 10) (v := ?_) (oi := { dst := some 150, op := Op.extract (Operand.tmp 140) 2, type := _, pos := _, after := _, guard := none }) rfl (by kernel_rfl) (by kernel_rfl) (by kernel_rfl) (fun _ _ _ h => h) (Or.inl ⟨by kernel_rfl, ?_⟩) (by assumption) ?_
                  rotate_left
                  · (intro wx hSw; (try dsimp only at hSw); go_simp) <;> with_reducible rfl
                  try simp only [Act.put, List.setIfInBounds_toArray, List.set_cons_zero, List.set_cons_succ]
                  refine wpAnyH_ready (rs := [11]) (by kernel_rfl) (by simp) ?_
                  refine (AllReadyH.cons rfl (fun K hK => ?_) AllReadyH.nil)
                  go_simp
                  refine hK.out _ _ (hHC.alloc _) (fun hHCP => ?_)
                  clear hK K
                  try simp only [Act.put, List.setIfInBounds_toArray, List.set_cons_zero, List.set_cons_succ]
                  have zP := hHC.size
                  have RP := hid (heap_new wdC (.cells #[.slice none 0 0, .slice none 0 0] 67))
                  have zB : wdC.heap.size < (wdC.alloc (.cells #[.slice none 0 0, .slice none 0 0] 67)).heap.size := by simp
                  have D4 := hid (fun g (h : some g = (Value.slice a6 xs5.length c6).ownBlock) => show g ≠ wdC.heap.size by have := (HO5.out.own_lt h).2; omega)
                  have D5 := hid (fun g (h : some g = (Value.slice b6 ls5.length d6).ownBlock) => show g ≠ wdC.heap.size by have := (OwnR.own_lt HV5.out h).2; omega)
                  replace HO5 := hid (HO5.out.chg ((Chg.refl (fun _ => False) wdC).alloc (.cells #[.slice none 0 0, .slice none 0 0] 67)) fun _ _ _ h => h)
                  replace HV5 := hid (HV5.out.chg ((Chg.refl (fun _ => False) wdC).alloc (.cells #[.slice none 0 0, .slice none 0 0] 67)) fun _ _ _ h => h)
                  generalize wdC.alloc (.cells #[.slice none 0 0, .slice none 0 0] 67) = wdCP at *
                  generalize wdC.heap.size = bz at *
                  refine wpAnyH_ready (rs := [12]) (by kernel_rfl) (by simp) ?_
                  refine (AllReadyH.cons rfl (fun K hK => ?_) AllReadyH.nil)
                  have kP := cells_at RP.out
                  have fP := frees_at RP.out
                  go_simp
                  have zbz : wy.heap.size ≤ bz := by omega
                  refine hK.out _ _ ((hHCP.setCell (p := ⟨bz, 0, none⟩) (.inr zbz) _).setCell (p := ⟨bz, 1, none⟩) (.inr zbz) _) (fun hH9 => ?_)
                  clear hK K
                  try simp only [Act.put, List.setIfInBounds_toArray, List.set_cons_zero, List.set_cons_succ]
                  have CV := chg_row2 wdCP bz (.slice a6 xs5.length c6) (.slice b6 ls5.length d6)
                  replace HO5 := hid (HO5.out.chgN CV (fun g e1 e2 => D4.out g e1 e2))
                  replace HV5 := hid (HV5.out.chgN CV (fun g e1 e2 => D5.out g e1 e2))
                  replace RP := hid (heap_row2 RP.out (.slice a6 xs5.length c6) (.slice b6 ls5.length d6))
                  clear CV kP fP
                  generalize (wdCP.setCell ⟨bz, 0, none⟩ (.slice a6 xs5.length c6)).setCell ⟨bz, 1, none⟩ (.slice b6 ls5.length d6) = W9 at *
                  refine wpAnyH_take (i := 13) (v := ?_) (oi := { dst := some 25, op := Op.assign (Operand.tmp 149), type := _, pos := _, after := _, guard := none }) rfl (by kernel_rfl) (by kernel_rfl) (by kernel_rfl) (fun _ _ _ h => h) (Or.inl ⟨by kernel_rfl, ?_⟩) (by assumption) ?_
                  rotate_left
                  · (intro wx hSw; (try dsimp only at hSw); go_simp) <;> with_reducible rfl
                  try simp only [Act.put, List.setIfInBounds_toArray, List.set_cons_zero, List.set_cons_succ]
                  refine wpAnyH_take (i := 14) (v := ?_) (oi := { dst := some 26, op := Op.assign (Operand.tmp 150), type := _, pos := _, after := _, guard := none }) rfl (by kernel_rfl) (by kernel_rfl) (by kernel_rfl) (fun _ _ _ h => h) (Or.inl ⟨by kernel_rfl, ?_⟩) (by assumption) ?_
                  rotate_left
                  · (intro wx hSw; (try dsimp only at hSw); go_simp) <;> with_reducible rfl
                  try simp only [Act.put, List.setIfInBounds_toArray, List.set_cons_zero, List.set_cons_succ]
                  refine wpAnyH_done (by kernel_rfl) ?_ _
                  go_wp2_with fail
                  go_meet
                  exact ⟨rfl, hid (by assumption)⟩
                · go_simp
                  refine hK.out _ _ (hH.alloc _) (fun hHP => ?_)
                  clear hK K
                  try simp only [Act.put, List.setIfInBounds_toArray, List.set_cons_zero, List.set_cons_succ]
                  have zP := hH.size
                  have RP := hid (heap_new wd (.cells #[.slice none 0 0, .slice none 0 0] 67))
                  have zB : wd.heap.size < (wd.alloc (.cells #[.slice none 0 0, .slice none 0 0] 67)).heap.size := by simp
                  generalize wd.alloc (.cells #[.slice none 0 0, .slice none 0 0] 67) = wdP at *
                  generalize wd.heap.size = bz at *
                  refine wpAnyH_ready (rs := [6]) (by kernel_rfl) (by simp) ?_
                  refine (AllReadyH.cons rfl (fun K hK => ?_) AllReadyH.nil)
                  go_simp
                  refine (hCS3.out _ _ (by (try rw [Int.tmod_eq_emod_of_nonneg (by omega : (0 : Int) ≤ (x3 : Int))]); (try rw [IntKind.wrap_i64]); omega) hHP).mono ?_
                  rintro e wdPC ⟨⟨a6, c6, b6, d6, rfl, hO5, hV5, hG5⟩, G24⟩
                  go_wp2_with fail
                  refine hK.out _ _ G24 (fun hHPC => ?_)
                  clear hK K
                  try simp only [Act.put, List.setIfInBounds_toArray, List.set_cons_zero, List.set_cons_succ]
                  have HO5 := hid hO5
                  have HV5 := hid hV5
                  have lC := hG5.size
                  replace RP := hid (hG5.heap RP.out (fun h => h))
                  have D4 := hid (fun g (h : some g = (Value.slice a6 xs5.length c6).ownBlock) => show g ≠ bz by have := (hO5.own_lt h).1; omega)
                  have D5 := hid (fun g (h : some g = (Value.slice b6 ls5.length d6).ownBlock) => show g ≠ bz by have := (OwnR.own_lt hV5 h).1; omega)
                  clear hO5 hV5 hG5 G24
                  refine wpAnyH_take (i := 7) (v := ?_) (oi := { dst := some 140, op := Op.move (Operand.tmp 147), type := _, pos := _, after := _, guard := none }) rfl (by kernel_rfl) (by kernel_rfl) (by kernel_rfl) (fun _ _ _ h => h) (Or.inl ⟨by kernel_rfl, ?_⟩) (by assumption) ?_
                  rotate_left
                  · (intro wx hSw; (try dsimp only at hSw); go_simp) <;> with_reducible rfl
                  try simp only [Act.put, List.setIfInBounds_toArray, List.set_cons_zero, List.set_cons_succ]
                  refine wpAnyH_take (i := 8) (v := ?_) (oi := { dst := some 148, op := Op.extract (Operand.tmp 140) 0, type := _, pos := _, after := _, guard := none }) rfl (by kernel_rfl) (by kernel_rfl) (by kernel_rfl) (fun _ _ _ h => h) (Or.inl ⟨by kernel_rfl, ?_⟩) (by assumption) ?_
                  rotate_left
                  · (intro wx hSw; (try dsimp only at hSw); go_simp) <;> with_reducible rfl
                  try simp only [Act.put, List.setIfInBounds_toArray, List.set_cons_zero, List.set_cons_succ]
                  refine wpAnyH_take (i := 9) (v := ?_) (oi := { dst := some 149, op := Op.extract (Operand.tmp 140) 1, type := _, pos := _, after := _, guard := none }) rfl (by kernel_rfl) (by kernel_rfl) (by kernel_rfl) (fun _ _ _ h => h) (Or.inl ⟨by kernel_rfl, ?_⟩) (by assumption) ?_
                  rotate_left
                  · (intro wx hSw; (try dsimp only at hSw); go_simp) <;> with_reducible rfl
                  try simp only [Act.put, List.setIfInBounds_toArray, List.set_cons_zero, List.set_cons_succ]
                  refine wpAnyH_take (i := 10) (v := ?_) (oi := { dst := some 150, op := Op.extract (Operand.tmp 140) 2, type := _, pos := _, after := _, guard := none }) rfl (by kernel_rfl) (by kernel_rfl) (by kernel_rfl) (fun _ _ _ h => h) (Or.inl ⟨by kernel_rfl, ?_⟩) (by assumption) ?_
                  rotate_left
                  · (intro wx hSw; (try dsimp only at hSw); go_simp) <;> with_reducible rfl
                  try simp only [Act.put, List.setIfInBounds_toArray, List.set_cons_zero, List.set_cons_succ]
                  refine wpAnyH_ready (rs := [12]) (by kernel_rfl) (by simp) ?_
                  refine (AllReadyH.cons rfl (fun K hK => ?_) AllReadyH.nil)
                  have kP := cells_at RP.out
                  have fP := frees_at RP.out
                  go_simp
                  have zbz : wy.heap.size ≤ bz := by omega
                  refine hK.out _ _ ((hHPC.setCell (p := ⟨bz, 0, none⟩) (.inr zbz) _).setCell (p := ⟨bz, 1, none⟩) (.inr zbz) _) (fun hH9 => ?_)
                  clear hK K
                  try simp only [Act.put, List.setIfInBounds_toArray, List.set_cons_zero, List.set_cons_succ]
                  have CV := chg_row2 wdPC bz (.slice a6 xs5.length c6) (.slice b6 ls5.length d6)
                  replace HO5 := hid (HO5.out.chgN CV (fun g e1 e2 => D4.out g e1 e2))
                  replace HV5 := hid (HV5.out.chgN CV (fun g e1 e2 => D5.out g e1 e2))
                  replace RP := hid (heap_row2 RP.out (.slice a6 xs5.length c6) (.slice b6 ls5.length d6))
                  clear CV kP fP
                  generalize (wdPC.setCell ⟨bz, 0, none⟩ (.slice a6 xs5.length c6)).setCell ⟨bz, 1, none⟩ (.slice b6 ls5.length d6) = W9 at *
                  refine wpAnyH_take (i := 13) (v := ?_) (oi := { dst := some 25, op := Op.assign (Operand.tmp 149), type := _, pos := _, after := _, guard := none }) rfl (by kernel_rfl) (by kernel_rfl) (by kernel_rfl) (fun _ _ _ h => h) (Or.inl ⟨by kernel_rfl, ?_⟩) (by assumption) ?_
                  rotate_left
                  · (intro wx hSw; (try dsimp only at hSw); go_simp) <;> with_reducible rfl
                  try simp only [Act.put, List.setIfInBounds_toArray, List.set_cons_zero, List.set_cons_succ]
                  refine wpAnyH_take (i := 14) (v := ?_) (oi := { dst := some 26, op := Op.assign (Operand.tmp 150), type := _, pos := _, after := _, guard := none }) rfl (by kernel_rfl) (by kernel_rfl) (by kernel_rfl) (fun _ _ _ h => h) (Or.inl ⟨by kernel_rfl, ?_⟩) (by assumption) ?_
                  rotate_left
                  · (intro wx hSw; (try dsimp only at hSw); go_simp) <;> with_reducible rfl
                  try simp only [Act.put, List.setIfInBounds_toArray, List.set_cons_zero, List.set_cons_succ]
                  refine wpAnyH_done (by kernel_rfl) ?_ _
                  go_wp2_with fail
                  go_meet
                  exact ⟨rfl, hid (by assumption)⟩
              · go_simp
                refine hK.out _ _ (hH.alloc _) (fun hHP => ?_)
                clear hK K
                try simp only [Act.put, List.setIfInBounds_toArray, List.set_cons_zero, List.set_cons_succ]
                have zP := hH.size
                have RP := hid (heap_new wd (.cells #[.slice none 0 0, .slice none 0 0] 67))
                have zB : wd.heap.size < (wd.alloc (.cells #[.slice none 0 0, .slice none 0 0] 67)).heap.size := by simp
                generalize wd.alloc (.cells #[.slice none 0 0, .slice none 0 0] 67) = wdP at *
                generalize wd.heap.size = bz at *
                refine wpAnyH_ready (rs := [3]) (by kernel_rfl) (by simp) ?_
                refine (AllReadyH.cons rfl (fun K hK => ?_) AllReadyH.nil)
                go_simp
                refine (hAt.out _ hHP).mono ?_
                rintro e w' ⟨rfl, rfl⟩
                go_wp2_with fail
                refine hK.out _ _ hHP (fun hHA => ?_)
                clear hK K hHA
                try simp only [Act.put, List.setIfInBounds_toArray, List.set_cons_zero, List.set_cons_succ]
                refine wpAnyH_take (i := 4) (v := ?_) (oi := { dst := some 145, op := Op.binOp BinOp.rem 3 (Operand.tmp 144) (Operand.const (Value.int IntKind.i64 4)) 3, type := _, pos := _, after := _, guard := none }) rfl (by kernel_rfl) (by kernel_rfl) (by kernel_rfl) (fun _ _ _ h => h) (Or.inl ⟨by kernel_rfl, ?_⟩) (by assumption) ?_
                rotate_left
                · (intro wx hSw; (try dsimp only at hSw); go_simp) <;> with_reducible rfl
                try simp only [Act.put, List.setIfInBounds_toArray, List.set_cons_zero, List.set_cons_succ]
                refine wpAnyH_take (i := 5) (v := ?_) (oi := { dst := some 146, op := Op.binOp BinOp.add 3 (Operand.const (Value.int IntKind.i64 1)) (Operand.tmp 145) 3, type := _, pos := _, after := _, guard := none }) rfl (by kernel_rfl) (by kernel_rfl) (by kernel_rfl) (fun _ _ _ h => h) (Or.inl ⟨by kernel_rfl, ?_⟩) (by assumption) ?_
                rotate_left
                · (intro wx hSw; (try dsimp only at hSw); go_simp) <;> with_reducible rfl
                try simp only [Act.put, List.setIfInBounds_toArray, List.set_cons_zero, List.set_cons_succ]
                refine wpAnyH_ready (rs := [6]) (by kernel_rfl) (by simp) ?_
                refine (AllReadyH.cons rfl (fun K hK => ?_) AllReadyH.nil)
                go_simp
                refine (hCS3.out _ _ (by (try rw [Int.tmod_eq_emod_of_nonneg (by omega : (0 : Int) ≤ (x3 : Int))]); (try rw [IntKind.wrap_i64]); omega) hHP).mono ?_
                rintro e wdPC ⟨⟨a6, c6, b6, d6, rfl, hO5, hV5, hG5⟩, G24⟩
                go_wp2_with fail
                refine hK.out _ _ G24 (fun hHPC => ?_)
                clear hK K
                try simp only [Act.put, List.setIfInBounds_toArray, List.set_cons_zero, List.set_cons_succ]
                have HO5 := hid hO5
                have HV5 := hid hV5
                have lC := hG5.size
                replace RP := hid (hG5.heap RP.out (fun h => h))
                have D4 := hid (fun g (h : some g = (Value.slice a6 xs5.length c6).ownBlock) => show g ≠ bz by have := (hO5.own_lt h).1; omega)
                have D5 := hid (fun g (h : some g = (Value.slice b6 ls5.length d6).ownBlock) => show g ≠ bz by have := (OwnR.own_lt hV5 h).1; omega)
                clear hO5 hV5 hG5 G24
                refine wpAnyH_take (i := 7) (v := ?_) (oi := { dst := some 140, op := Op.move (Operand.tmp 147), type := _, pos := _, after := _, guard := none }) rfl (by kernel_rfl) (by kernel_rfl) (by kernel_rfl) (fun _ _ _ h => h) (Or.inl ⟨by kernel_rfl, ?_⟩) (by assumption) ?_
                rotate_left
                · (intro wx hSw; (try dsimp only at hSw); go_simp) <;> with_reducible rfl
                try simp only [Act.put, List.setIfInBounds_toArray, List.set_cons_zero, List.set_cons_succ]
                refine wpAnyH_take (i := 8) (v := ?_) (oi := { dst := some 148, op := Op.extract (Operand.tmp 140) 0, type := _, pos := _, after := _, guard := none }) rfl (by kernel_rfl) (by kernel_rfl) (by kernel_rfl) (fun _ _ _ h => h) (Or.inl ⟨by kernel_rfl, ?_⟩) (by assumption) ?_
                rotate_left
                · (intro wx hSw; (try dsimp only at hSw); go_simp) <;> with_reducible rfl
                try simp only [Act.put, List.setIfInBounds_toArray, List.set_cons_zero, List.set_cons_succ]
                refine wpAnyH_take (i := 9) (v := ?_) (oi := { dst := some 149, op := Op.extract (Operand.tmp 140) 1, type := _, pos := _, after := _, guard := none }) rfl (by kernel_rfl) (by kernel_rfl) (by kernel_rfl) (fun _ _ _ h => h) (Or.inl ⟨by kernel_rfl, ?_⟩) (by assumption) ?_
                rotate_left
                · (intro wx hSw; (try dsimp only at hSw); go_simp) <;> with_reducible rfl
                try simp only [Act.put, List.setIfInBounds_toArray, List.set_cons_zero, List.set_cons_succ]
                refine wpAnyH_take (i := 10) (v := ?_) (oi := { dst := some 150, op := Op.extract (Operand.tmp 140) 2, type := _, pos := _, after := _, guard := none }) rfl (by kernel_rfl) (by kernel_rfl) (by kernel_rfl) (fun _ _ _ h => h) (Or.inl ⟨by kernel_rfl, ?_⟩) (by assumption) ?_
                rotate_left
                · (intro wx hSw; (try dsimp only at hSw); go_simp) <;> with_reducible rfl
                try simp only [Act.put, List.setIfInBounds_toArray, List.set_cons_zero, List.set_cons_succ]
                refine wpAnyH_ready (rs := [12]) (by kernel_rfl) (by simp) ?_
                refine (AllReadyH.cons rfl (fun K hK => ?_) AllReadyH.nil)
                have kP := cells_at RP.out
                have fP := frees_at RP.out
                go_simp
                have zbz : wy.heap.size ≤ bz := by omega
                refine hK.out _ _ ((hHPC.setCell (p := ⟨bz, 0, none⟩) (.inr zbz) _).setCell (p := ⟨bz, 1, none⟩) (.inr zbz) _) (fun hH9 => ?_)
                clear hK K
                try simp only [Act.put, List.setIfInBounds_toArray, List.set_cons_zero, List.set_cons_succ]
                have CV := chg_row2 wdPC bz (.slice a6 xs5.length c6) (.slice b6 ls5.length d6)
                replace HO5 := hid (HO5.out.chgN CV (fun g e1 e2 => D4.out g e1 e2))
                replace HV5 := hid (HV5.out.chgN CV (fun g e1 e2 => D5.out g e1 e2))
                replace RP := hid (heap_row2 RP.out (.slice a6 xs5.length c6) (.slice b6 ls5.length d6))
                clear CV kP fP
                generalize (wdPC.setCell ⟨bz, 0, none⟩ (.slice a6 xs5.length c6)).setCell ⟨bz, 1, none⟩ (.slice b6 ls5.length d6) = W9 at *
                refine wpAnyH_take (i := 13) (v := ?_) (oi := { dst := some 25, op := Op.assign (Operand.tmp 149), type := _, pos := _, after := _, guard := none }) rfl (by kernel_rfl) (by kernel_rfl) (by kernel_rfl) (fun _ _ _ h => h) (Or.inl ⟨by kernel_rfl, ?_⟩) (by assumption) ?_
                rotate_left
                · (intro wx hSw; (try dsimp only at hSw); go_simp) <;> with_reducible rfl
                try simp only [Act.put, List.setIfInBounds_toArray, List.set_cons_zero, List.set_cons_succ]
                refine wpAnyH_take (i := 14) (v := ?_) (oi := { dst := some 26, op := Op.assign (Operand.tmp 150), type := _, pos := _, after := _, guard := none }) rfl (by kernel_rfl) (by kernel_rfl) (by kernel_rfl) (fun _ _ _ h => h) (Or.inl ⟨by kernel_rfl, ?_⟩) (by assumption) ?_
                rotate_left
                · (intro wx hSw; (try dsimp only at hSw); go_simp) <;> with_reducible rfl
                try simp only [Act.put, List.setIfInBounds_toArray, List.set_cons_zero, List.set_cons_succ]
                refine wpAnyH_done (by kernel_rfl) ?_ _
                go_wp2_with fail
                go_meet
                exact ⟨rfl, hid (by assumption)⟩
          case rest =>
            obtain ⟨rfl, GQ⟩ := hcut
            obtain ⟨wv, rfl⟩ : ∃ wv : World, wv = wc := ⟨_, rfl⟩
            have hG := GQ.out
            replace HO := hid (HO.out.chg hG fun _ _ _ h => h)
            replace HV := hid (HV.out.chg hG fun _ _ _ h => h)
            replace R3 := hid (hG.heap R3.out (fun h => h))
            replace HG := hid (HG.out.trans hG fun _ _ h => h)
            replace RQ := hid (hG.heap RQ.out (fun h => h))
            replace HOQ := hid (HOQ.out.chg hG fun _ _ _ h => h)
            replace HVQ := hid (HVQ.out.chg hG fun _ _ _ h => h)
            clear hG GQ hAt hCS3 x0 x1'
            have kR3 := cells_at R3.out
            have kRQ := cells_at RQ.out
            cases ok5 with
            | false =>
              as_aux_lemma =>
                have hWA := hid (fun w s v ho hv => WindowOf_calls w s v xs5 ls5 k ho hv HFO.out)
                have hWB := hid (fun w s v ho hv => WindowOf_calls w s v xs5 ls5 id5 ho hv HFO.out)
                have hWS2 := hid (hWS.out k)
                clear hWS HCF HCN HFL
                go_wp2_with fail
                refine (hWS2.out _ HO.out HV.out).mono ?_
                rintro e w20 h
                obtain ⟨a20, n20, c20, b20, rfl, hG⟩ := rwin_any h
                clear h
                replace HO := hid (HO.out.chg hG fun _ _ _ h => h)
                replace HV := hid (HV.out.chg hG fun _ _ _ h => h)
                replace R3 := hid (hG.heap R3.out (fun h => h))
                replace HG := hid (HG.out.trans hG fun _ _ h => h)
                replace RQ := hid (hG.heap RQ.out (fun h => h))
                replace HOQ := hid (HOQ.out.chg hG fun _ _ _ h => h)
                replace HVQ := hid (HVQ.out.chg hG fun _ _ _ h => h)
                clear hG kR3 kRQ hWS2
                have kRQ := cells_at RQ.out
                go_wp2_with fail
                refine (hWA.out _ _ _ HOQ.out HVQ.out).mono ?_
                rintro e w21 h
                obtain ⟨a21, n21, c21, b21, rfl, hG⟩ := rwin_any h
                clear h
                replace HO := hid (HO.out.chg hG fun _ _ _ h => h)
                replace HV := hid (HV.out.chg hG fun _ _ _ h => h)
                replace R3 := hid (hG.heap R3.out (fun h => h))
                replace HG := hid (HG.out.trans hG fun _ _ h => h)
                replace RQ := hid (hG.heap RQ.out (fun h => h))
                replace HOQ := hid (HOQ.out.chg hG fun _ _ _ h => h)
                replace HVQ := hid (HVQ.out.chg hG fun _ _ _ h => h)
                clear hG kRQ hWA
                have kRQ := cells_at RQ.out
                go_wp2_with fail
                refine (hWB.out _ _ _ HOQ.out HVQ.out).mono ?_
                rintro e w22 h
                obtain ⟨a22, n22, c22, b22, rfl, hG⟩ := rwin_any h
                clear h
                replace HO := hid (HO.out.chg hG fun _ _ _ h => h)
                replace HV := hid (HV.out.chg hG fun _ _ _ h => h)
                replace R3 := hid (hG.heap R3.out (fun h => h))
                replace HG := hid (HG.out.trans hG fun _ _ h => h)
                replace RQ := hid (hG.heap RQ.out (fun h => h))
                replace HOQ := hid (HOQ.out.chg hG fun _ _ _ h => h)
                replace HVQ := hid (HVQ.out.chg hG fun _ _ _ h => h)
                clear hG kRQ hWB
                have kRQ := cells_at RQ.out
                go_wp2_with fail
                go_ret
                exact ⟨rfl, HG.out⟩
            | true =>
              as_aux_lemma =>
                have hcs := HCN.out rfl
                obtain ⟨hne, A, B, hA, hB, hAB⟩ := HCF.out _ hcs
                dsimp only at hne hA hB hAB
                have hlen := winP_len hAB
                obtain ⟨W, hW⟩ : ∃ W, W = A ++ B := ⟨_, rfl⟩
                rw [← hW] at hAB
                have HWe := hid hW
                have HWl := hid (show W.length = A.length + B.length by rw [hW, List.length_append])
                have hlA : A.length ≤ 256 := by rw [List.length_append] at hlen; have := HN.out; omega
                have hlB : B.length ≤ 256 := by rw [List.length_append] at hlen; have := HN.out; omega
                have hlW : W.length ≤ 1000 := by have := HWl.out; omega
                have nk : ¬ ((id5 : Int) = (k : Int)) := by omega
                have nb : ((id5 : Int) != (k : Int)) = true := by simp; omega
                have hWS2 := hWS.out k
                rw [hAB] at hWS2
                have hWA := hid (fun w s v ho hv => WindowOf_calls w s v xs5 ls5 k ho hv HFO.out)
                have hWB := hid (fun w s v ho hv => WindowOf_calls w s v xs5 ls5 id5 ho hv HFO.out)
                have hIP := hid (fun w s v ho hv => IsPoolS_calls w s v xs5 ls5 ho hv HFO.out)
                rw [hA] at hWA
                rw [hB] at hWB
                have HWS := hid hWS2
                clear hWS hWS2 hA hB hAB hlen hW hcs HCF HCN HFL
                go_wp2_with fail
                refine (HWS.out _ HO.out HV.out).mono ?_
                rintro e w20 ⟨hG, a20, c20, rfl, hO⟩
                replace HO := hid (HO.out.chg hG fun _ _ _ h => h)
                replace HV := hid (HV.out.chg hG fun _ _ _ h => h)
                replace R3 := hid (hG.heap R3.out (fun h => h))
                replace HG := hid (HG.out.trans hG fun _ _ h => h)
                replace RQ := hid (hG.heap RQ.out (fun h => h))
                replace HOQ := hid (HOQ.out.chg hG fun _ _ _ h => h)
                replace HVQ := hid (HVQ.out.chg hG fun _ _ _ h => h)
                have HW := hid (hO.mono (Nat.zero_le _))
                clear hG hO kR3 kRQ HWS
                have kRQ := cells_at RQ.out
                go_wp2_with fail
                refine (hWA.out _ _ _ HOQ.out HVQ.out).mono ?_
                rintro e w21 ⟨hG, a21, c21, rfl, hO⟩
                replace HO := hid (HO.out.chg hG fun _ _ _ h => h)
                replace HV := hid (HV.out.chg hG fun _ _ _ h => h)
                replace R3 := hid (hG.heap R3.out (fun h => h))
                replace HG := hid (HG.out.trans hG fun _ _ h => h)
                replace RQ := hid (hG.heap RQ.out (fun h => h))
                replace HOQ := hid (HOQ.out.chg hG fun _ _ _ h => h)
                replace HVQ := hid (HVQ.out.chg hG fun _ _ _ h => h)
                replace HW := hid (HW.out.chg hG fun _ _ _ h => h)
                have HA := hid (hO.mono (Nat.zero_le _))
                clear hG hO kRQ hWA
                have kRQ := cells_at RQ.out
                go_wp2_with fail
                refine (hWB.out _ _ _ HOQ.out HVQ.out).mono ?_
                rintro e w22 ⟨hG, a22, c22, rfl, hO⟩
                replace HO := hid (HO.out.chg hG fun _ _ _ h => h)
                replace HV := hid (HV.out.chg hG fun _ _ _ h => h)
                replace R3 := hid (hG.heap R3.out (fun h => h))
                replace HG := hid (HG.out.trans hG fun _ _ h => h)
                replace RQ := hid (hG.heap RQ.out (fun h => h))
                replace HOQ := hid (HOQ.out.chg hG fun _ _ _ h => h)
                replace HVQ := hid (HVQ.out.chg hG fun _ _ _ h => h)
                replace HW := hid (HW.out.chg hG fun _ _ _ h => h)
                replace HA := hid (HA.out.chg hG fun _ _ _ h => h)
                have HB := hid (hO.mono (Nat.zero_le _))
                clear hG hO kRQ hWB
                have kRQ := cells_at RQ.out
                go_wp2_with fail
                refine (hIP.out _ _ _ HOQ.out HVQ.out).mono ?_
                rintro e w23 ⟨rfl, hG⟩
                replace HG := hid (HG.out.trans hG fun _ _ h => h)
                replace HA := hid (HA.out.chg hG fun _ _ _ h => h)
                replace HB := hid (HB.out.chg hG fun _ _ _ h => h)
                replace HW := hid (HW.out.chg hG fun _ _ _ h => h)
                have zg23 := HG.out.size
                clear hG kRQ hIP RQ HOQ HVQ HO HV R3
                have EE := hid (OwnC.lit w23 [] 33 rfl (by simp) (Nat.le_refl w23.heap.size) #[] rfl)
                have BA := hid (fun q (h : some q = (Value.slice a21 A.length c21).ownBlock) => (HA.out.own_lt h).2)
                have BB := hid (fun q (h : some q = (Value.slice a22 B.length c22).ownBlock) => (HB.out.own_lt h).2)
                have BW := hid (fun q (h : some q = (Value.slice a20 W.length c20).ownBlock) => (HW.out.own_lt h).2)
                have A1 := (Chg.refl (fun _ => False) w23).alloc (.cells #[] 33)
                replace HG := hid (HG.out.trans A1 fun _ _ h => h)
                replace HA := hid (HA.out.chg A1 fun _ _ _ h => h)
                replace HB := hid (HB.out.chg A1 fun _ _ _ h => h)
                replace HW := hid (HW.out.chg A1 fun _ _ _ h => h)
                have z23 := A1.size
                have zw23 : w.heap.size ≤ w23.heap.size := zg23
                clear A1
                go_wp2_with (at_builtin; refine wpList_appW _ rfl _ _ rfl w23.heap.size _ _ [] A rfl EE.out rfl HA.out (by simp; omega) (by simp) ?_)
                intro a24 c24 w24 hO hG
                have O4 := hid (show OwnC w24 w23.heap.size (.slice a24 A.length c24) A by simpa using hO)
                have z24 : w23.heap.size ≤ w24.heap.size := Nat.le_trans z23 hG.size
                have HB24 : ∀ q, some q = (Value.slice (some ⟨w23.heap.size, 0, none⟩) 0 0).ownBlock → q = w23.heap.size := fun q h => by simpa [Value.ownBlock] using h
                replace HB := hid (HB.out.chgN hG (fun q h1 h2 => by have := HB24 q h2; have := BB.out q h1; omega))
                replace HW := hid (HW.out.chgN hG (fun q h1 h2 => by have := HB24 q h2; have := BW.out q h1; omega))
                replace HG := hid (HG.out.trans hG (fun q h1 h2 => by have := HB24 q h2; have := HG.out.size; have := zw23; omega))
                clear hO hG EE HA BA
                try simp only [List.length_nil, Nat.zero_add]
                go_wp2_with (at_builtin; refine wpList_appW _ rfl _ _ rfl w23.heap.size _ _ A B rfl O4.out rfl HB.out (by omega) (by omega) ?_)
                intro a25 c25 w25 hO hG
                have O5 := hid (show OwnC w25 w23.heap.size (.slice a25 (A.length + B.length) c25) W by rw [HWe.out]; exact hO)
                have BO := fun q (h : some q = (Value.slice a24 A.length c24).ownBlock) => (O4.out.own_lt h).1
                replace HW := hid (HW.out.chgN hG (fun q h1 h2 => by have := BO q h2; have := BW.out q h1; omega))
                replace HG := hid (HG.out.trans hG (fun q h1 h2 => by have := BO q h2; have := zw23; omega))
                clear hO hG O4 HB BB
                go_wp2_with fail
                refine (MakeSame_refl _ _ _ W (by omega) (O5.out.mono (Nat.zero_le _)) HW.out).mono ?_
                rintro e w26 ⟨rfl, nn, rfl⟩
                go_wp2_with fail
                go_ret
                exact ⟨rfl, HG.out.drewN nn⟩
  · have hb1 : (1048576 : Int) < (len : Int) := by omega
    go_enter Try.func17, Try.ntmps17
    go_wp2_with fail
    go_ret
    exact ⟨rfl, Chg.refl _ w⟩
end Go.Proofs.Ytopkehknaclhlaa
