/- The walk of FnApart. No condition. (Printed by gen_te.py.) -/
import Derived.Test.YtopkehknaclhlaaTe
namespace Go.Proofs.Ytopkehknaclhlaa
open Go Go.RowKit

set_option maxRecDepth 100000 in
set_option maxHeartbeats 4000000 in
theorem walkFnApart (w : World) (a : Option Addr) (len cap : Nat) (h0 : Bytes0 w w.heap.size a len cap) :
    Calls Try.prog 12 #[.slice a len cap] w (LawPost w) := by
  by_cases hbig : len ≤ 1048576
  · have HY := hid (show Bytes w w.heap.size a len cap from ⟨h0.1, hbig, h0.2.2⟩)
    clear h0
    have hb1 : ¬ (1048576 : Int) < (len : Int) := by omega
    go_enter Try.func12, Try.ntmps12
    go_wp2_with fail
    refine (MakePool_calls _ _ _ _ HY.out).mono ?_
    rintro e w1 ⟨xs, ls, a1, c1, a2, c2, rfl, hp, hO, hV, hG⟩
    have n256 := hp.nle
    have m16 := hp.len
    have HP := hid hp
    have HO := hid (hO.mono (Nat.zero_le _))
    have HV := hid (OwnR.mono hV (Nat.zero_le _))
    have BHO := hid (fun q (h : some q = (Value.slice a1 xs.length c1).ownBlock) => (hO.own_lt h).2)
    have BHV := hid (fun q (h : some q = (Value.slice a2 ls.length c2).ownBlock) => (OwnR.own_lt hV h).2)
    replace HY := hid (HY.out.chg hG fun _ _ h => h)
    have HG := hid hG
    have zb3 := hG.size
    have hCp := hid (fun w ho hv => CompactPool_calls w (.slice a1 xs.length c1) (.slice a2 ls.length c2) xs ls ho hv hp)
    have hWp := hid (fun w (k : Nat) ho hv => (WindowOf_calls w (.slice a1 xs.length c1) (.slice a2 ls.length c2) xs ls k ho hv hp).mono fun e w' h => rwin_flat h)
    have hTx := hid (fun w ho hv => MakePoolText_calls w (.slice a1 xs.length c1) (.slice a2 ls.length c2) xs ls ho hv hp)
    have HWL := hid (fun (k : Nat) => flatW_len (xs := xs) (ls := ls) k)
    have HCE := hid (fun (ids : List Nat) (h : ids.Perm (lentIds ls)) => cp_end hp h)
    clear hO hV hG hp
    generalize poolT xs ls = T at *
    generalize hn : xs.length = n at *
    generalize hm : ls.length = m at *
    have HN := hid hn
    have HM := hid hm
    clear hn hm
    have A1 := (Chg.refl (fun _ => False) w1).alloc (.cells #[.slice a1 n c1, .slice a2 m c2] 67)
    have R3 := hid (heap_new w1 (.cells #[.slice a1 n c1, .slice a2 m c2] 67))
    replace HO := hid (HO.out.chg A1 fun _ _ _ h => h)
    replace HV := hid (HV.out.chg A1 fun _ _ _ h => h)
    replace HY := hid (HY.out.chg A1 fun _ _ h => h)
    replace HG := hid (HG.out.trans A1 fun _ _ h => h)
    have zb4 : w1.heap.size < (w1.alloc (.cells #[.slice a1 n c1, .slice a2 m c2] 67)).heap.size := by simp
    clear A1
    go_upto_region 4 with fail
    generalize w1.alloc (.cells #[.slice a1 n c1, .slice a2 m c2] 67) = w2 at *
    generalize w1.heap.size = b3 at *
    go_wp2_with fail
    refine (fresh_calls _ _ _ _ (by obtain ⟨h1, h2, h3⟩ := HY.out; exact ⟨h1, h2, fun k hk => by obtain ⟨b, off, z, h4, h5, h6⟩ := h3 k hk; exact ⟨b, off, z, h4, by have := HG.out.size; omega, h6⟩⟩) 3 (by omega)).mono ?_
    rintro e w9 ⟨a9, l9, c9, hl9, rfl, hy9, hG⟩
    replace HO := hid (HO.out.chg hG fun _ _ _ h => h)
    replace HV := hid (HV.out.chg hG fun _ _ _ h => h)
    replace HY := hid (HY.out.chg hG fun _ _ h => h)
    replace HG := hid (HG.out.trans hG fun _ _ h => h)
    replace R3 := hid (hG.heap R3.out (fun h => h))
    have HY9 := hid hy9
    have zw9 := hG.size
    clear hG hy9
    go_wp2_with fail
    refine (MakeSamples_calls _ _ _ _ HY9.out 30 (by omega) (by omega)).mono ?_
    rintro e w10 ⟨a10, c10, zs, hz5, rfl, hO, hG⟩
    replace HO := hid (HO.out.chg hG fun _ _ _ h => h)
    replace HV := hid (HV.out.chg hG fun _ _ _ h => h)
    replace HY := hid (HY.out.chg hG fun _ _ h => h)
    replace HG := hid (HG.out.trans hG fun _ _ h => h)
    replace R3 := hid (hG.heap R3.out (fun h => h))
    have HL := hid (hO.mono (Nat.zero_le _))
    have BHL := hid (fun q (h : some q = (Value.slice a10 zs.length c10).ownBlock) => hO.own_lt h)
    have zw10 := hG.size
    clear hG hO HY9
    have EE := hid (OwnC.lit w10 [] 33 rfl (by simp) (Nat.le_refl w10.heap.size) #[] rfl)
    have A1 := (Chg.refl (fun _ => False) w10).alloc (.cells #[] 33)
    replace HO := hid (HO.out.chg A1 fun _ _ _ h => h)
    replace HV := hid (HV.out.chg A1 fun _ _ _ h => h)
    replace HY := hid (HY.out.chg A1 fun _ _ h => h)
    replace HG := hid (HG.out.trans A1 fun _ _ h => h)
    replace R3 := hid (A1.heap R3.out (fun h => h))
    replace HL := hid (HL.out.chg A1 fun _ _ _ h => h)
    have zw11 := A1.size
    clear A1
    go_wp2_with (at_builtin; refine wpList_appW _ rfl _ _ rfl w10.heap.size _ _ [] zs rfl EE.out rfl HL.out (by simp; omega) (by simp) ?_)
    intro a12 c12 w12 hO hG
    have HB24 := hid (fun q (h : some q = (Value.slice (some ⟨w10.heap.size, 0, none⟩) 0 0).ownBlock) => (show q = w10.heap.size by simpa [Value.ownBlock] using h))
    have hH : OwnC w12 w10.heap.size (.slice a12 zs.length c12) zs := by simpa using hO
    have HH := hid (hH.mono (Nat.zero_le _))
    have BHH := hid (fun q (h : some q = (Value.slice a12 zs.length c12).ownBlock) => hH.own_lt h)
    have zw12 := hG.size
    replace HO := hid (HO.out.chgN hG (fun q h1 h2 => by have := HB24.out q h2; have := BHO.out q h1; omega))
    replace HV := hid (HV.out.chgN hG (fun q h1 h2 => by have := HB24.out q h2; have := BHV.out q h1; omega))
    replace HY := hid (HY.out.chg hG fun q h1 h2 => by have := HB24.out q h2; omega)
    replace HG := hid (HG.out.trans hG fun q h1 h2 => by have := HB24.out q h2; omega)
    replace R3 := hid (hG.heap R3.out (fun h => by have := HB24.out _ h; omega))
    replace HL := hid (HL.out.chgN hG (fun q h1 h2 => by have := HB24.out q h2; have := BHL.out q h1; omega))
    clear hO hG hH EE HB24
    try simp only [List.length_nil, Nat.zero_add]
    go_wp2_with fail
    refine (FramesOf_calls _ _ zs (by omega) HL.out).mono ?_
    rintro e w13 ⟨a13, c13, fs, a14, c14, ys, rfl, hfy, hy8, hfl, hF, hR, hG⟩
    replace HO := hid (HO.out.chg hG fun _ _ _ h => h)
    replace HV := hid (HV.out.chg hG fun _ _ _ h => h)
    replace HY := hid (HY.out.chg hG fun _ _ h => h)
    replace HG := hid (HG.out.trans hG fun _ _ h => h)
    replace R3 := hid (hG.heap R3.out (fun h => h))
    replace HL := hid (HL.out.chg hG fun _ _ _ h => h)
    replace HH := hid (HH.out.chg hG fun _ _ _ h => h)
    have HF := hid (OwnR.mono hF (Nat.zero_le _))
    have HR := hid (hR.mono (Nat.zero_le _))
    have BHF := hid (fun q (h : some q = (Value.slice a13 fs.length c13).ownBlock) => OwnR.own_lt hF h)
    have BHR := hid (fun q (h : some q = (Value.slice a14 ys.length c14).ownBlock) => hR.own_lt h)
    have BFR := hid (fun q (h1 : some q = (Value.slice a13 fs.length c13).ownBlock) (h2 : some q = (Value.slice a14 ys.length c14).ownBlock) => apartC (by decide) hR hF h2 h1)
    have zw13 := hG.size
    clear hG hF hR
    go_wp2_with fail
    refine (FramesOf_calls _ _ zs (by omega) HL.out).mono ?_
    rintro e w14 ⟨a15, c15, fs2, a16, c16, ys2, rfl, hfy2, hy82, hfl2, hF, hR, hG⟩
    replace HO := hid (HO.out.chg hG fun _ _ _ h => h)
    replace HV := hid (HV.out.chg hG fun _ _ _ h => h)
    replace HY := hid (HY.out.chg hG fun _ _ h => h)
    replace HG := hid (HG.out.trans hG fun _ _ h => h)
    replace R3 := hid (hG.heap R3.out (fun h => h))
    replace HL := hid (HL.out.chg hG fun _ _ _ h => h)
    replace HH := hid (HH.out.chg hG fun _ _ _ h => h)
    replace HF := hid (HF.out.chg hG fun _ _ _ h => h)
    replace HR := hid (HR.out.chg hG fun _ _ _ h => h)
    have HA := hid (OwnR.mono hF (Nat.zero_le _))
    have HE := hid (hR.mono (Nat.zero_le _))
    have BHA := hid (fun q (h : some q = (Value.slice a15 fs2.length c15).ownBlock) => OwnR.own_lt hF h)
    have BHE := hid (fun q (h : some q = (Value.slice a16 ys2.length c16).ownBlock) => hR.own_lt h)
    have zw14 := hG.size
    clear hG hF hR
    have hsm : fs.length = fs2.length ∧ ys.length = ys2.length := by
      have e1 := congrArg List.length hfy
      have e2 := congrArg List.length hfy2
      rw [List.length_append, smp_flat_len] at e1 e2
      omega
    have HFY2 := hid hfy2
    have HFY := hid (show zs.take (zs.length - ys2.length) = fs.flatMap smp from by
      rw [← hsm.2, ← hfy, List.length_append, Nat.add_sub_cancel]
      exact List.take_left' rfl)
    have hle9 : ys2.length ≤ zs.length := by rw [← hfy2, List.length_append]; omega
    have HS1 := hid hsm.1
    have HS2 := hid hsm.2
    clear hsm hfy hfy2
    go_wp2_with fail
    go_loopw [49] (fun i wx => ∃ (j : Nat) (zz : List (Nat × Nat)), j ≤ zs.length ∧ i = .int .i64 (j : Int) ∧ zz.length = zs.length ∧ Hid (OwnC wx 0 (.slice a10 zs.length c10) zz) ∧ Hid (Chg (fun q => some q = (Value.slice a10 zs.length c10).ownBlock) w14 wx)) (fun i _ => zs.length - (intOf i).toNat)
    case atStart => exact ⟨0, _, Nat.zero_le _, rfl, rfl, HL, hid (Chg.refl _ _)⟩
    case round =>
      obtain ⟨j, zz, hj, rfl, hys, HZ, GZ⟩ := hrel
      obtain ⟨wo, rfl⟩ : ∃ wo : World, wo = wr := ⟨_, rfl⟩
      by_cases hlt : j < zs.length
      · as_aux_lemma =>
          have hlt' : (j : Int) < (zs.length : Int) := by omega
          obtain ⟨g, cc, cur, hva, hga, hgb, hgd, hgha, hcl⟩ := HZ.out.at2 hys (by omega)
          have x0 : wo.cell? ⟨g, j, none⟩ = some (cx (zz.getD j (0, 0))) := by rw [cell_at hgha, hcl j hlt]
          have fx := frees_at hgha
          have HZ2 := hid (show OwnC (wo.setCell ⟨g, j, none⟩ (.complex .f32 1117388800 0)) 0 (.slice (some ⟨g, 0, none⟩) zs.length cc) (zz.set j (1117388800, 0)) from OwnC.put (by rw [hva] at HZ; exact HZ.out) j (by omega) (1117388800, 0))
          have GZ2 := hid (GZ.out.trans ((Chg.refl (fun q => q = g) wo).setCell (p := ⟨g, j, none⟩) (.inl rfl) (.complex .f32 1117388800 0)) (fun q _ (e : q = g) => by rw [hva, e]; rfl))
          simp at hva
          obtain ⟨rfl, rfl⟩ := hva
          clear hcl hgha HZ GZ
          generalize zz.getD j (0, 0) = u at *
          have j0 : (0 : Int) ≤ (j : Int) := by omega
          go_wp2_with fail
          go_roundw
          case rel => exact ⟨j + 1, zz.set j (1117388800, 0), by omega, by go_num, by rw [List.length_set]; exact hys, HZ2, GZ2⟩
          case measure => simp [intOf]; omega
      · obtain rfl : zs.length = j := by omega
        have hlt' : ¬ (zs.length : Int) < (zs.length : Int) := by omega
        have hG := GZ.out
        clear HZ GZ hys
        replace HO := hid (HO.out.chgN hG (fun q h1 h2 => by have := BHL.out q h2; have := BHO.out q h1; omega))
        replace HV := hid (HV.out.chgN hG (fun q h1 h2 => by have := BHL.out q h2; have := BHV.out q h1; omega))
        replace HY := hid (HY.out.chg hG fun q h1 h2 => by have := BHL.out q h2; omega)
        replace HG := hid (HG.out.trans hG fun q h1 h2 => by have := BHL.out q h2; omega)
        replace R3 := hid (hG.heap R3.out (fun h => by have := BHL.out _ h; omega))
        replace HH := hid (HH.out.chgN hG (fun q h1 h2 => by have := BHL.out q h2; have := BHH.out q h1; omega))
        replace HF := hid (HF.out.chgN hG (fun q h1 h2 => by have := BHL.out q h2; have := BHF.out q h1; omega))
        replace HA := hid (HA.out.chgN hG (fun q h1 h2 => by have := BHL.out q h2; have := BHA.out q h1; omega))
        replace HE := hid (HE.out.chgN hG (fun q h1 h2 => by have := BHL.out q h2; have := BHE.out q h1; omega))
        replace HR := hid (HR.out.chgN hG (fun q h1 h2 => by have := BHL.out q h2; have := BHR.out q h1; omega))
        have zwA := hG.size
        clear hG HL
        obtain ⟨wA, rfl⟩ : ∃ wA : World, wA = wo := ⟨_, rfl⟩
        go_wp2_with fail
        go_loopw [58] (fun i wx => ∃ (j : Nat) (zz : List (Nat × Nat)), j ≤ ys.length ∧ i = .int .i64 (j : Int) ∧ zz.length = ys.length ∧ Hid (OwnC wx 0 (.slice a14 ys.length c14) zz) ∧ Hid (Chg (fun q => some q = (Value.slice a14 ys.length c14).ownBlock) wA wx)) (fun i _ => ys.length - (intOf i).toNat)
        case atStart => exact ⟨0, _, Nat.zero_le _, rfl, rfl, HR, hid (Chg.refl _ _)⟩
        case round =>
          obtain ⟨j, zz, hj, rfl, hys, HZ, GZ⟩ := hrel
          obtain ⟨wo, rfl⟩ : ∃ wo : World, wo = wr := ⟨_, rfl⟩
          by_cases hlt : j < ys.length
          · as_aux_lemma =>
              have hlt' : (j : Int) < (ys.length : Int) := by omega
              obtain ⟨g, cc, cur, hva, hga, hgb, hgd, hgha, hcl⟩ := HZ.out.at2 hys (by omega)
              have x0 : wo.cell? ⟨g, j, none⟩ = some (cx (zz.getD j (0, 0))) := by rw [cell_at hgha, hcl j hlt]
              have fx := frees_at hgha
              have HZ2 := hid (show OwnC (wo.setCell ⟨g, j, none⟩ (.complex .f32 1113325568 0)) 0 (.slice (some ⟨g, 0, none⟩) ys.length cc) (zz.set j (1113325568, 0)) from OwnC.put (by rw [hva] at HZ; exact HZ.out) j (by omega) (1113325568, 0))
              have GZ2 := hid (GZ.out.trans ((Chg.refl (fun q => q = g) wo).setCell (p := ⟨g, j, none⟩) (.inl rfl) (.complex .f32 1113325568 0)) (fun q _ (e : q = g) => by rw [hva, e]; rfl))
              simp at hva
              obtain ⟨rfl, rfl⟩ := hva
              clear hcl hgha HZ GZ
              generalize zz.getD j (0, 0) = u at *
              have j0 : (0 : Int) ≤ (j : Int) := by omega
              go_wp2_with fail
              go_roundw
              case rel => exact ⟨j + 1, zz.set j (1113325568, 0), by omega, by go_num, by rw [List.length_set]; exact hys, HZ2, GZ2⟩
              case measure => simp [intOf]; omega
          · obtain rfl : ys.length = j := by omega
            have hlt' : ¬ (ys.length : Int) < (ys.length : Int) := by omega
            have hG := GZ.out
            clear HZ GZ hys
            replace HO := hid (HO.out.chgN hG (fun q h1 h2 => by have := BHR.out q h2; have := BHO.out q h1; omega))
            replace HV := hid (HV.out.chgN hG (fun q h1 h2 => by have := BHR.out q h2; have := BHV.out q h1; omega))
            replace HY := hid (HY.out.chg hG fun q h1 h2 => by have := BHR.out q h2; omega)
            replace HG := hid (HG.out.trans hG fun q h1 h2 => by have := BHR.out q h2; omega)
            replace R3 := hid (hG.heap R3.out (fun h => by have := BHR.out _ h; omega))
            replace HH := hid (HH.out.chgN hG (fun q h1 h2 => by have := BHR.out q h2; have := BHH.out q h1; omega))
            replace HA := hid (HA.out.chgN hG (fun q h1 h2 => by have := BHR.out q h2; have := BHA.out q h1; omega))
            replace HE := hid (HE.out.chgN hG (fun q h1 h2 => by have := BHR.out q h2; have := BHE.out q h1; omega))
            replace HF := hid (HF.out.chgN hG (fun q h1 h2 => BFR.out q h1 h2))
            have zwB := hG.size
            clear hG HR BFR
            obtain ⟨wB, rfl⟩ : ∃ wB : World, wB = wo := ⟨_, rfl⟩
            have s0 : IntKind.i64.wrap ((zs.length : Int) - (ys2.length : Int)) = (zs.length : Int) - (ys2.length : Int) := by rw [IntKind.wrap_i64]; omega
            have s1 : (0 : Int) ≤ (zs.length : Int) - (ys2.length : Int) := by omega
            have s2 : (zs.length : Int) - (ys2.length : Int) ≤ (c12 : Int) := by
              rcases HH.out.block with ⟨h1, h2⟩ | ⟨g, cap, cur, h1, _, _, h3, _⟩
              · injection h1 with e1 e2 e3
                omega
              · injection h1 with e1 e2 e3
                omega
            have s3 : a12.map (fun x => x.add 0) = a12 := HH.out.at0
            have s4 : ((zs.length : Int) - (ys2.length : Int)).toNat = zs.length - ys2.length := by omega
            have q0 : ((fs.length : Int) != (fs2.length : Int)) = false := by rw [HS1.out]; simp
            go_upto_region 18 with fail
            go_cut [91] (fun r91 wx => r91 = .bool false ∧ Hid (Chg (fun _ => False) wB wx))
            case first =>
              --DEV sorry
              as_aux_lemma =>
                refine wp_region_held_drew (S := fun wx => Chg (fun _ => False) wB wx) (by kernel_rfl) ((Chg.refl _ wB).drew) (fun hH => ?_)
                have zd : wB.heap.size ≤ wB.drew.heap.size := Nat.le_refl _
                generalize wB.drew = wd at *
                refine wpAnyH_take (i := 0) (v := ?_) (oi := { dst := some 65, op := Op.move (Operand.tmp 6), type := _, pos := _, after := _, guard := none }) rfl (by kernel_rfl) (by kernel_rfl) (by kernel_rfl) (fun _ _ _ h => h) (Or.inl ⟨by kernel_rfl, ?_⟩) (by assumption) ?_
                rotate_left
                · (intro wx hSw; (try dsimp only at hSw); go_simp) <;> with_reducible rfl
                try simp only [Act.put, List.setIfInBounds_toArray, List.set_cons_zero, List.set_cons_succ]
                refine wpAnyH_take (i := 1) (v := ?_) (oi := { dst := some 66, op := Op.call { callee := Callee.builtin Builtin.len, args := #[Operand.tmp 65], argTypes := #[49] }, type := _, pos := _, after := _, guard := none }) rfl (by kernel_rfl) (by kernel_rfl) (by kernel_rfl) (fun _ _ _ h => h) (Or.inl ⟨by kernel_rfl, ?_⟩) (by assumption) ?_
                rotate_left
                · (intro wx hSw; (try dsimp only at hSw); go_simp) <;> with_reducible rfl
                try simp only [Act.put, List.setIfInBounds_toArray, List.set_cons_zero, List.set_cons_succ]
                refine wpAnyH_take (i := 2) (v := ?_) (oi := { dst := some 67, op := Op.move (Operand.tmp 8), type := _, pos := _, after := _, guard := none }) rfl (by kernel_rfl) (by kernel_rfl) (by kernel_rfl) (fun _ _ _ h => h) (Or.inl ⟨by kernel_rfl, ?_⟩) (by assumption) ?_
                rotate_left
                · (intro wx hSw; (try dsimp only at hSw); go_simp) <;> with_reducible rfl
                try simp only [Act.put, List.setIfInBounds_toArray, List.set_cons_zero, List.set_cons_succ]
                refine wpAnyH_take (i := 3) (v := ?_) (oi := { dst := some 68, op := Op.call { callee := Callee.builtin Builtin.len, args := #[Operand.tmp 67], argTypes := #[49] }, type := _, pos := _, after := _, guard := none }) rfl (by kernel_rfl) (by kernel_rfl) (by kernel_rfl) (fun _ _ _ h => h) (Or.inl ⟨by kernel_rfl, ?_⟩) (by assumption) ?_
                rotate_left
                · (intro wx hSw; (try dsimp only at hSw); go_simp) <;> with_reducible rfl
                try simp only [Act.put, List.setIfInBounds_toArray, List.set_cons_zero, List.set_cons_succ]
                refine wpAnyH_take (i := 4) (v := ?_) (oi := { dst := some 69, op := Op.binOp BinOp.neq 3 (Operand.tmp 66) (Operand.tmp 68) 3, type := _, pos := _, after := _, guard := none }) rfl (by kernel_rfl) (by kernel_rfl) (by kernel_rfl) (fun _ _ _ h => h) (Or.inl ⟨by kernel_rfl, ?_⟩) (by assumption) ?_
                rotate_left
                · (intro wx hSw; (try dsimp only at hSw); go_simp) <;> with_reducible rfl
                try simp only [Act.put, List.setIfInBounds_toArray, List.set_cons_zero, List.set_cons_succ]
                refine wpAnyH_take (i := 5) (v := ?_) (oi := { dst := some 70, op := Op.move (Operand.tmp 69), type := _, pos := _, after := _, guard := none }) rfl (by kernel_rfl) (by kernel_rfl) (by kernel_rfl) (fun _ _ _ h => h) (Or.inl ⟨by kernel_rfl, ?_⟩) (by assumption) ?_
                rotate_left
                · (intro wx hSw; (try dsimp only at hSw); go_simp) <;> with_reducible rfl
                try simp only [Act.put, List.setIfInBounds_toArray, List.set_cons_zero, List.set_cons_succ]
                refine wpAnyH_take (i := 6) (v := ?_) (oi := { dst := some 71, op := Op.move (Operand.tmp 8), type := _, pos := _, after := _, guard := some (5, false) }) rfl (by kernel_rfl) (by kernel_rfl) (by kernel_rfl) (fun _ _ _ h => h) (Or.inl ⟨by kernel_rfl, ?_⟩) (by assumption) ?_
                rotate_left
                · (intro wx hSw; (try dsimp only at hSw); go_simp) <;> with_reducible rfl
                try simp only [Act.put, List.setIfInBounds_toArray, List.set_cons_zero, List.set_cons_succ]
                refine wpAnyH_take (i := 8) (v := ?_) (oi := { dst := some 73, op := Op.move (Operand.tmp 9), type := _, pos := _, after := _, guard := some (5, false) }) rfl (by kernel_rfl) (by kernel_rfl) (by kernel_rfl) (fun _ _ _ h => h) (Or.inl ⟨by kernel_rfl, ?_⟩) (by assumption) ?_
                rotate_left
                · (intro wx hSw; (try dsimp only at hSw); go_simp) <;> with_reducible rfl
                try simp only [Act.put, List.setIfInBounds_toArray, List.set_cons_zero, List.set_cons_succ]
                refine wpAnyH_take (i := 10) (v := ?_) (oi := { dst := some 75, op := Op.move (Operand.tmp 5), type := _, pos := _, after := _, guard := some (5, false) }) rfl (by kernel_rfl) (by kernel_rfl) (by kernel_rfl) (fun _ _ _ h => h) (Or.inl ⟨by kernel_rfl, ?_⟩) (by assumption) ?_
                rotate_left
                · (intro wx hSw; (try dsimp only at hSw); go_simp) <;> with_reducible rfl
                try simp only [Act.put, List.setIfInBounds_toArray, List.set_cons_zero, List.set_cons_succ]
                refine wpAnyH_ready (rs := [7]) (by kernel_rfl) (by simp) ?_
                refine (AllReadyH.cons rfl (fun K hK => ?_) AllReadyH.nil)
                go_simp
                refine (SamplesOf_calls _ _ fs2 (by omega) (HA.out.chg hH fun _ _ _ h => h)).mono ?_
                rintro e' W7 ⟨a72, c72, rfl, hS7, hG7⟩
                have hxl : (fs2.flatMap smp).length ≤ 300 := by rw [smp_flat_len]; omega
                generalize fs2.flatMap smp = X2 at *
                go_wp2_with fail
                refine hK.out _ _ (hH.trans hG7 fun _ _ h => h) (fun hH7 => ?_)
                clear hK K
                try simp only [Act.put, List.setIfInBounds_toArray, List.set_cons_zero, List.set_cons_succ]
                have zd7 := hG7.size
                refine wpAnyH_ready (rs := [9]) (by kernel_rfl) (by simp) ?_
                refine (AllReadyH.cons rfl (fun K hK => ?_) AllReadyH.nil)
                refine step_appG (by kernel_rfl) _ _ (by rfl) wd.heap.size _ _ X2 ys2 (by rfl) hS7 (by rfl) (HE.out.chg hH7 fun _ _ _ h => h) (by omega) zd7 ?_
                intro a74 c74 W9 hS9 hG9
                have hH9 : Chg (fun _ => False) wB W9 := hH7.trans hG9 (fun q h1 h2 => by have := (hS7.own_lt h2).1; omega)
                rw [HFY2.out] at hS9
                refine hK.out _ _ hH9 (fun hH9' => ?_)
                clear hK K hG9
                try simp only [Act.put, List.setIfInBounds_toArray, List.set_cons_zero, List.set_cons_succ]
                refine wpAnyH_ready (rs := [11]) (by kernel_rfl) (by simp) ?_
                refine (AllReadyH.cons rfl (fun K hK => ?_) AllReadyH.nil)
                go_simp
                refine (MakeSame_refl _ _ _ zs (by omega) (hS9.mono (Nat.zero_le _)) (HH.out.chg hH9 fun _ _ _ h => h)).mono ?_
                rintro e' W11 ⟨rfl, k11, rfl⟩
                go_wp2_with fail
                refine hK.out _ _ (hH9.drewN k11) (fun hH11 => ?_)
                clear hK K
                try simp only [Act.put, List.setIfInBounds_toArray, List.set_cons_zero, List.set_cons_succ]
                refine wpAnyH_take (i := 12) (v := ?_) (oi := { dst := some 77, op := Op.unOp UnOp.not 4 (Operand.tmp 76), type := _, pos := _, after := _, guard := some (5, false) }) rfl (by kernel_rfl) (by kernel_rfl) (by kernel_rfl) (fun _ _ _ h => h) (Or.inl ⟨by kernel_rfl, ?_⟩) (by assumption) ?_
                rotate_left
                · (intro wx hSw; (try dsimp only at hSw); go_simp) <;> with_reducible rfl
                try simp only [Act.put, List.setIfInBounds_toArray, List.set_cons_zero, List.set_cons_succ]
                refine wpAnyH_take (i := 13) (v := ?_) (oi := { dst := some 78, op := Op.pick (Operand.tmp 70) (Operand.const (Value.bool true)) (Operand.tmp 77), type := _, pos := _, after := _, guard := none }) rfl (by kernel_rfl) (by kernel_rfl) (by kernel_rfl) (fun _ _ _ h => h) (Or.inl ⟨by kernel_rfl, ?_⟩) (by assumption) ?_
                rotate_left
                · (intro wx hSw; (try dsimp only at hSw); go_simp) <;> with_reducible rfl
                try simp only [Act.put, List.setIfInBounds_toArray, List.set_cons_zero, List.set_cons_succ]
                refine wpAnyH_take (i := 14) (v := ?_) (oi := { dst := some 79, op := Op.move (Operand.tmp 78), type := _, pos := _, after := _, guard := none }) rfl (by kernel_rfl) (by kernel_rfl) (by kernel_rfl) (fun _ _ _ h => h) (Or.inl ⟨by kernel_rfl, ?_⟩) (by assumption) ?_
                rotate_left
                · (intro wx hSw; (try dsimp only at hSw); go_simp) <;> with_reducible rfl
                try simp only [Act.put, List.setIfInBounds_toArray, List.set_cons_zero, List.set_cons_succ]
                refine wpAnyH_take (i := 15) (v := ?_) (oi := { dst := some 80, op := Op.move (Operand.tmp 6), type := _, pos := _, after := _, guard := some (14, false) }) rfl (by kernel_rfl) (by kernel_rfl) (by kernel_rfl) (fun _ _ _ h => h) (Or.inl ⟨by kernel_rfl, ?_⟩) (by assumption) ?_
                rotate_left
                · (intro wx hSw; (try dsimp only at hSw); go_simp) <;> with_reducible rfl
                try simp only [Act.put, List.setIfInBounds_toArray, List.set_cons_zero, List.set_cons_succ]
                refine wpAnyH_take (i := 17) (v := ?_) (oi := { dst := some 82, op := Op.move (Operand.tmp 5), type := _, pos := _, after := _, guard := some (14, false) }) rfl (by kernel_rfl) (by kernel_rfl) (by kernel_rfl) (fun _ _ _ h => h) (Or.inl ⟨by kernel_rfl, ?_⟩) (by assumption) ?_
                rotate_left
                · (intro wx hSw; (try dsimp only at hSw); go_simp) <;> with_reducible rfl
                try simp only [Act.put, List.setIfInBounds_toArray, List.set_cons_zero, List.set_cons_succ]
                refine wpAnyH_take (i := 18) (v := ?_) (oi := { dst := some 83, op := Op.move (Operand.tmp 5), type := _, pos := _, after := _, guard := some (14, false) }) rfl (by kernel_rfl) (by kernel_rfl) (by kernel_rfl) (fun _ _ _ h => h) (Or.inl ⟨by kernel_rfl, ?_⟩) (by assumption) ?_
                rotate_left
                · (intro wx hSw; (try dsimp only at hSw); go_simp) <;> with_reducible rfl
                try simp only [Act.put, List.setIfInBounds_toArray, List.set_cons_zero, List.set_cons_succ]
                refine wpAnyH_take (i := 19) (v := ?_) (oi := { dst := some 84, op := Op.call { callee := Callee.builtin Builtin.len, args := #[Operand.tmp 83], argTypes := #[25] }, type := _, pos := _, after := _, guard := some (14, false) }) rfl (by kernel_rfl) (by kernel_rfl) (by kernel_rfl) (fun _ _ _ h => h) (Or.inl ⟨by kernel_rfl, ?_⟩) (by assumption) ?_
                rotate_left
                · (intro wx hSw; (try dsimp only at hSw); go_simp) <;> with_reducible rfl
                try simp only [Act.put, List.setIfInBounds_toArray, List.set_cons_zero, List.set_cons_succ]
                refine wpAnyH_take (i := 20) (v := ?_) (oi := { dst := some 85, op := Op.move (Operand.tmp 9), type := _, pos := _, after := _, guard := some (14, false) }) rfl (by kernel_rfl) (by kernel_rfl) (by kernel_rfl) (fun _ _ _ h => h) (Or.inl ⟨by kernel_rfl, ?_⟩) (by assumption) ?_
                rotate_left
                · (intro wx hSw; (try dsimp only at hSw); go_simp) <;> with_reducible rfl
                try simp only [Act.put, List.setIfInBounds_toArray, List.set_cons_zero, List.set_cons_succ]
                refine wpAnyH_take (i := 21) (v := ?_) (oi := { dst := some 86, op := Op.call { callee := Callee.builtin Builtin.len, args := #[Operand.tmp 85], argTypes := #[25] }, type := _, pos := _, after := _, guard := some (14, false) }) rfl (by kernel_rfl) (by kernel_rfl) (by kernel_rfl) (fun _ _ _ h => h) (Or.inl ⟨by kernel_rfl, ?_⟩) (by assumption) ?_
                rotate_left
                · (intro wx hSw; (try dsimp only at hSw); go_simp) <;> with_reducible rfl
                try simp only [Act.put, List.setIfInBounds_toArray, List.set_cons_zero, List.set_cons_succ]
                refine wpAnyH_take (i := 22) (v := ?_) (oi := { dst := some 87, op := Op.binOp BinOp.sub 3 (Operand.tmp 84) (Operand.tmp 86) 3, type := _, pos := _, after := _, guard := some (14, false) }) rfl (by kernel_rfl) (by kernel_rfl) (by kernel_rfl) (fun _ _ _ h => h) (Or.inl ⟨by kernel_rfl, ?_⟩) (by assumption) ?_
                rotate_left
                · (intro wx hSw; (try dsimp only at hSw); go_simp) <;> with_reducible rfl
                try simp only [Act.put, List.setIfInBounds_toArray, List.set_cons_zero, List.set_cons_succ]
                refine wpAnyH_take (i := 23) (v := ?_) (oi := { dst := some 88, op := Op.slice 25 (Operand.tmp 82) none (some (Operand.tmp 87)) none, type := _, pos := _, after := _, guard := some (14, false) }) rfl (by kernel_rfl) (by kernel_rfl) (by kernel_rfl) (fun _ _ _ h => h) (Or.inl ⟨by kernel_rfl, ?_⟩) (by assumption) ?_
                rotate_left
                · (intro wx hSw; (try dsimp only at hSw); go_simp) <;> with_reducible rfl
                try simp only [Act.put, List.setIfInBounds_toArray, List.set_cons_zero, List.set_cons_succ]
                refine wpAnyH_ready (rs := [16]) (by kernel_rfl) (by simp) ?_
                refine (AllReadyH.cons rfl (fun K hK => ?_) AllReadyH.nil)
                go_simp
                refine (SamplesOf_calls _ _ fs (by omega) (HF.out.chg hH11 fun _ _ _ h => h)).mono ?_
                rintro e' W16 ⟨a81, c81, rfl, hS16, hG16⟩
                have hxl1 : (fs.flatMap smp).length ≤ 300 := by rw [smp_flat_len]; omega
                generalize fs.flatMap smp = X1 at *
                go_wp2_with fail
                refine hK.out _ _ (hH11.trans hG16 fun _ _ h => h) (fun hH16 => ?_)
                clear hK K
                try simp only [Act.put, List.setIfInBounds_toArray, List.set_cons_zero, List.set_cons_succ]
                refine wpAnyH_ready (rs := [24]) (by kernel_rfl) (by simp) ?_
                refine (AllReadyH.cons rfl (fun K hK => ?_) AllReadyH.nil)
                go_simp
                refine (MakeSame_refl _ _ _ X1 (by omega) (hS16.mono (Nat.zero_le _)) ?_).mono ?_
                · have hc := OwnC.cut (HH.out.chg hH16 fun _ _ _ h => h) (zs.length - ys2.length) (by omega)
                  rw [HFY.out] at hc
                  exact hc
                rintro e' W24 ⟨rfl, k24, rfl⟩
                go_wp2_with fail
                refine hK.out _ _ (hH16.drewN k24) (fun hH24 => ?_)
                clear hK K
                try simp only [Act.put, List.setIfInBounds_toArray, List.set_cons_zero, List.set_cons_succ]
                refine wpAnyH_take (i := 25) (v := ?_) (oi := { dst := some 90, op := Op.unOp UnOp.not 4 (Operand.tmp 89), type := _, pos := _, after := _, guard := some (14, false) }) rfl (by kernel_rfl) (by kernel_rfl) (by kernel_rfl) (fun _ _ _ h => h) (Or.inl ⟨by kernel_rfl, ?_⟩) (by assumption) ?_
                rotate_left
                · (intro wx hSw; (try dsimp only at hSw); go_simp) <;> with_reducible rfl
                try simp only [Act.put, List.setIfInBounds_toArray, List.set_cons_zero, List.set_cons_succ]
                refine wpAnyH_take (i := 26) (v := ?_) (oi := { dst := some 91, op := Op.pick (Operand.tmp 79) (Operand.const (Value.bool true)) (Operand.tmp 90), type := _, pos := _, after := _, guard := none }) rfl (by kernel_rfl) (by kernel_rfl) (by kernel_rfl) (fun _ _ _ h => h) (Or.inl ⟨by kernel_rfl, ?_⟩) (by assumption) ?_
                rotate_left
                · (intro wx hSw; (try dsimp only at hSw); go_simp) <;> with_reducible rfl
                try simp only [Act.put, List.setIfInBounds_toArray, List.set_cons_zero, List.set_cons_succ]
                refine wpAnyH_done (by kernel_rfl) ?_ _
                go_wp2_with fail
                go_meet
                exact ⟨rfl, hid (by assumption)⟩
              --END
            case rest =>
              obtain ⟨rfl, GQ⟩ := hcut
              obtain ⟨wq, rfl⟩ : ∃ wq : World, wq = wc := ⟨_, rfl⟩
              have hG := GQ.out
              replace HO := hid (HO.out.chg hG fun _ _ _ h => h)
              replace HV := hid (HV.out.chg hG fun _ _ _ h => h)
              replace HY := hid (HY.out.chg hG fun _ _ h => h)
              replace HG := hid (HG.out.trans hG fun _ _ h => h)
              replace R3 := hid (hG.heap R3.out (fun h => h))
              have zwq := hG.size
              clear hG GQ HH HF HA HE s0 s1 s2 s3 s4 q0 HFY HFY2 BHH BHF BHA BHE BHL BHR HS1 HS2
              have kR3 := cells_at R3.out
              go_wp2_with fail
              refine (hTx.out _ HO.out HV.out).mono ?_
              rintro e w20 ⟨rfl, hG⟩
              replace HO := hid (HO.out.chg hG fun _ _ _ h => h)
              replace HV := hid (HV.out.chg hG fun _ _ _ h => h)
              replace HY := hid (HY.out.chg hG fun _ _ h => h)
              replace HG := hid (HG.out.trans hG fun _ _ h => h)
              replace R3 := hid (hG.heap R3.out (fun h => h))
              have zw20 := hG.size
              clear hG kR3
              have kR3 := cells_at R3.out
              have zz20 : w.heap.size ≤ w20.heap.size := HG.out.size
              go_wp2_with fail
              go_loopw [97] (fun i wx => ∃ (j : Nat), j ≤ m ∧ i = .int .i64 (j : Int) ∧ Hid (Chg (fun _ => False) w20 wx)) (fun i _ => m - (intOf i).toNat)
              case atStart => exact ⟨0, Nat.zero_le _, rfl, hid (Chg.refl _ _)⟩
              case round =>
                obtain ⟨j, hj, rfl, GL⟩ := hrel
                obtain ⟨wo, rfl⟩ : ∃ wo : World, wo = wr := ⟨_, rfl⟩
                clear kR3
                have hG := GL.out
                replace HO := hid (HO.out.chg hG fun _ _ _ h => h)
                replace HV := hid (HV.out.chg hG fun _ _ _ h => h)
                replace HY := hid (HY.out.chg hG fun _ _ h => h)
                replace HG := hid (HG.out.trans hG fun _ _ h => h)
                replace R3 := hid (hG.heap R3.out (fun h => h))
                have zwo := hG.size
                clear hG
                by_cases hlt : j < m
                · as_aux_lemma =>
                    have hlt' : (j : Int) < (m : Int) := by omega
                    have hWl := HWL.out j
                    have hwp := fun wx ho hv => hWp.out wx j ho hv
                    obtain ⟨W, b, hW⟩ : ∃ W b, flatW (winP xs ls j) = (W, b) := ⟨_, _, rfl⟩
                    rw [hW] at hWl hwp
                    have hwl : W.length ≤ 256 := by have : W.length ≤ n := hWl; omega
                    have HWP := hid hwp
                    clear hW hWl hwp hWp HWL
                    have kR3 := cells_at R3.out
                    go_wp2_with fail
                    refine (HWP.out _ HO.out HV.out).mono ?_
                    rintro e w15 ⟨a15, c15, he, hO, hG⟩
                    dsimp only at he hO
                    subst he
                    have HWB := hid hO
                    have BHWB := hid (fun q (h : some q = (Value.slice a15 W.length c15).ownBlock) => hO.own_lt h)
                    have zw15 := hG.size
                    replace HO := hid (HO.out.chg hG fun _ _ _ h => h)
                    replace HV := hid (HV.out.chg hG fun _ _ _ h => h)
                    replace HG := hid (HG.out.trans hG fun _ _ h => h)
                    replace R3 := hid (hG.heap R3.out (fun h => h))
                    replace GL := hid (GL.out.trans hG fun _ _ h => h)
                    clear hG hO kR3
                    have EE := hid (OwnC.lit w15 [] 33 rfl (by simp) (Nat.le_refl w15.heap.size) #[] rfl)
                    have A1 := (Chg.refl (fun _ => False) w15).alloc (.cells #[] 33)
                    replace HO := hid (HO.out.chg A1 fun _ _ _ h => h)
                    replace HV := hid (HV.out.chg A1 fun _ _ _ h => h)
                    replace HG := hid (HG.out.trans A1 fun _ _ h => h)
                    replace R3 := hid (A1.heap R3.out (fun h => h))
                    replace GL := hid (GL.out.trans A1 fun _ _ h => h)
                    replace HWB := hid (HWB.out.chg A1 fun _ _ _ h => h)
                    have zw16 : w15.heap.size < (w15.alloc (.cells #[] 33)).heap.size := by simp
                    clear A1
                    go_wp2_with (at_builtin; refine wpList_appW _ rfl _ _ rfl w15.heap.size _ _ [] W rfl EE.out rfl (HWB.out.mono (Nat.zero_le _)) (by simp; omega) (by simp) ?_)
                    intro a17 c17 w17 hO hG
                    have HB24 := hid (fun q (h : some q = (Value.slice (some ⟨w15.heap.size, 0, none⟩) 0 0).ownBlock) => (show q = w15.heap.size by simpa [Value.ownBlock] using h))
                    have hB : OwnC w17 w15.heap.size (.slice a17 W.length c17) W := by simpa using hO
                    have HBb := hid (hB.mono (Nat.zero_le _))
                    have BHBb := hid (fun q (h : some q = (Value.slice a17 W.length c17).ownBlock) => hB.own_lt h)
                    have zw17 := hG.size
                    replace HO := hid (HO.out.chgN hG (fun q h1 h2 => by have := HB24.out q h2; have := BHO.out q h1; omega))
                    replace HV := hid (HV.out.chgN hG (fun q h1 h2 => by have := HB24.out q h2; have := BHV.out q h1; omega))
                    replace HG := hid (HG.out.trans hG fun q h1 h2 => by have := HB24.out q h2; omega)
                    replace R3 := hid (hG.heap R3.out (fun h => by have := HB24.out _ h; omega))
                    replace GL := hid (GL.out.trans hG fun q h1 h2 => by have := HB24.out q h2; omega)
                    replace HWB := hid (HWB.out.chgN hG (fun q h1 h2 => by have := HB24.out q h2; have := BHWB.out q h1; omega))
                    clear hO hG hB EE HB24
                    try simp only [List.length_nil, Nat.zero_add]
                    have L3 := hid (OwnC.lit w17 [(1065353216, 0), (1073741824, 0), (1077936128, 0)] 33 rfl (by simp) (Nat.zero_le _) #[.complex .f32 1065353216 0, .complex .f32 1073741824 0, .complex .f32 1077936128 0] rfl)
                    have A1 := (Chg.refl (fun _ => False) w17).alloc (.cells #[.complex .f32 1065353216 0, .complex .f32 1073741824 0, .complex .f32 1077936128 0] 33)
                    replace HO := hid (HO.out.chg A1 fun _ _ _ h => h)
                    replace HV := hid (HV.out.chg A1 fun _ _ _ h => h)
                    replace HG := hid (HG.out.trans A1 fun _ _ h => h)
                    replace R3 := hid (A1.heap R3.out (fun h => h))
                    replace GL := hid (GL.out.trans A1 fun _ _ h => h)
                    replace HWB := hid (HWB.out.chg A1 fun _ _ _ h => h)
                    replace HBb := hid (HBb.out.chg A1 fun _ _ _ h => h)
                    have zw18 : w17.heap.size < (w17.alloc (.cells #[.complex .f32 1065353216 0, .complex .f32 1073741824 0, .complex .f32 1077936128 0] 33)).heap.size := by simp
                    clear A1
                    go_wp2_with (at_builtin; refine wpList_appX _ rfl _ _ rfl wo.heap.size _ _ W [(1065353216, 0), (1073741824, 0), (1077936128, 0)] rfl HWB.out rfl L3.out (by simp) (by simp; omega) (by omega) ?_)
                    intro a19 c19 w19 hO hG hX
                    have hO' : OwnC w19 wo.heap.size (.slice a19 (W.length + 3) c19) (W ++ [(1065353216, 0), (1073741824, 0), (1077936128, 0)]) := hO
                    have hX' : ∀ q, some q = (Value.slice a19 (W.length + 3) c19).ownBlock → (wo.heap.size ≤ q ∧ q < w15.heap.size) ∨ w17.heap.size < q := fun q h => by
                      rcases hX q h with h1 | h1
                      · exact .inl (BHWB.out q h1)
                      · exact .inr (by omega)
                    have BX := hid (fun q h => (show ((wo.heap.size ≤ q ∧ q < w15.heap.size) ∨ w17.heap.size < q) ∧ wo.heap.size ≤ q from ⟨hX' q h, (hO'.own_lt h).1⟩))
                    have HX := hid (hO'.mono (Nat.zero_le _))
                    have zw19 := hG.size
                    replace HO := hid (HO.out.chgN hG (fun q h1 h2 => by have := BHWB.out q h2; have := BHO.out q h1; omega))
                    replace HV := hid (HV.out.chgN hG (fun q h1 h2 => by have := BHWB.out q h2; have := BHV.out q h1; omega))
                    replace HG := hid (HG.out.trans hG fun q h1 h2 => by have := BHWB.out q h2; omega)
                    replace R3 := hid (hG.heap R3.out (fun h => by have := BHWB.out _ h; omega))
                    replace GL := hid (GL.out.trans hG fun q h1 h2 => by have := BHWB.out q h2; omega)
                    replace HBb := hid (HBb.out.chgN hG (fun q h1 h2 => by have := BHWB.out q h2; have := BHBb.out q h1; omega))
                    clear hO hG hX hO' hX' L3 HWB BHWB
                    try simp only [List.length_cons, List.length_nil, Nat.zero_add, Nat.reduceAdd]
                    have HXL := hid (show (W ++ [(1065353216, 0), (1073741824, 0), (1077936128, 0)]).length = W.length + 3 by simp)
                    generalize W ++ [(1065353216, 0), (1073741824, 0), (1077936128, 0)] = X at *
                    obtain ⟨N, hN3⟩ : ∃ N, N = W.length + 3 := ⟨_, rfl⟩
                    rw [← hN3] at HX BX HXL ⊢
                    have hN9 : N ≤ 300 := by omega
                    clear hN3
                    go_wp2_with fail
                    go_loopw [114] (fun i wx => ∃ (j : Nat) (zz : List (Nat × Nat)), j ≤ N ∧ i = .int .i64 (j : Int) ∧ zz.length = N ∧ Hid (OwnC wx 0 (.slice a19 N c19) zz) ∧ Hid (Chg (fun q => some q = (Value.slice a19 N c19).ownBlock) w19 wx)) (fun i _ => N - (intOf i).toNat)
                    case atStart => exact ⟨0, _, Nat.zero_le _, rfl, HXL.out, HX, hid (Chg.refl _ _)⟩
                    case round =>
                      obtain ⟨j, zz, hj, rfl, hys, HZ, GZ⟩ := hrel
                      obtain ⟨wo1, rfl⟩ : ∃ wo1 : World, wo1 = wr := ⟨_, rfl⟩
                      by_cases hlt : j < N
                      · as_aux_lemma =>
                          have hlt' : (j : Int) < (N : Int) := by omega
                          obtain ⟨g, cc, cur, hva, hga, hgb, hgd, hgha, hcl⟩ := HZ.out.at2 hys (by omega)
                          have x0 : wo1.cell? ⟨g, j, none⟩ = some (cx (zz.getD j (0, 0))) := by rw [cell_at hgha, hcl j hlt]
                          have fx := frees_at hgha
                          have HZ2 := hid (show OwnC (wo1.setCell ⟨g, j, none⟩ (.complex .f32 1120272384 0)) 0 (.slice (some ⟨g, 0, none⟩) N cc) (zz.set j (1120272384, 0)) from OwnC.put (by rw [hva] at HZ; exact HZ.out) j (by omega) (1120272384, 0))
                          have GZ2 := hid (GZ.out.trans ((Chg.refl (fun q => q = g) wo1).setCell (p := ⟨g, j, none⟩) (.inl rfl) (.complex .f32 1120272384 0)) (fun q _ (e : q = g) => by rw [hva, e]; rfl))
                          simp at hva
                          obtain ⟨rfl, rfl⟩ := hva
                          clear hcl hgha HZ GZ
                          generalize zz.getD j (0, 0) = u at *
                          have j0 : (0 : Int) ≤ (j : Int) := by omega
                          go_wp2_with fail
                          go_roundw
                          case rel => exact ⟨j + 1, zz.set j (1120272384, 0), by omega, by go_num, by rw [List.length_set]; exact hys, HZ2, GZ2⟩
                          case measure => simp [intOf]; omega
                      · obtain rfl : N = j := by omega
                        have hlt' : ¬ (N : Int) < (N : Int) := by omega
                        have hG := GZ.out
                        clear HZ GZ hys
                        replace HO := hid (HO.out.chgN hG (fun q h1 h2 => by have := BX.out q h2; have := BHO.out q h1; omega))
                        replace HV := hid (HV.out.chgN hG (fun q h1 h2 => by have := BX.out q h2; have := BHV.out q h1; omega))
                        replace HG := hid (HG.out.trans hG fun q h1 h2 => by have := BX.out q h2; omega)
                        replace R3 := hid (hG.heap R3.out (fun h => by have := BX.out _ h; omega))
                        replace GL := hid (GL.out.trans hG fun q h1 h2 => by have := BX.out q h2; omega)
                        replace HBb := hid (HBb.out.chgN hG (fun q h1 h2 => by have := BX.out q h2; have := BHBb.out q h1; omega))
                        have zwf := hG.size
                        clear hG
                        obtain ⟨wf, rfl⟩ : ∃ wf : World, wf = wo1 := ⟨_, rfl⟩
                        have kR3 := cells_at R3.out
                        go_wp2_with fail
                        refine (HWP.out _ HO.out HV.out).mono ?_
                        rintro e w21 ⟨a21, c21, he, hO, hG⟩
                        dsimp only at he hO
                        subst he
                        have HW := hid (hO.mono (Nat.zero_le _))
                        replace HO := hid (HO.out.chg hG fun _ _ _ h => h)
                        replace HV := hid (HV.out.chg hG fun _ _ _ h => h)
                        replace HG := hid (HG.out.trans hG fun _ _ h => h)
                        replace R3 := hid (hG.heap R3.out (fun h => h))
                        replace GL := hid (GL.out.trans hG fun _ _ h => h)
                        replace HBb := hid (HBb.out.chg hG fun _ _ _ h => h)
                        clear hG hO kR3 HWP
                        go_wp2_with fail
                        refine (MakeSame_refl _ _ _ W (by omega) HW.out HBb.out).mono ?_
                        rintro e w22 ⟨rfl, nn, rfl⟩
                        have hG := (Chg.refl (fun _ => False) w21).drewN nn
                        replace HO := hid (HO.out.chg hG fun _ _ _ h => h)
                        replace HV := hid (HV.out.chg hG fun _ _ _ h => h)
                        replace HG := hid (HG.out.trans hG fun _ _ h => h)
                        replace R3 := hid (hG.heap R3.out (fun h => h))
                        replace GL := hid (GL.out.trans hG fun _ _ h => h)
                        clear hG HW HBb
                        generalize w21.drewN nn = w23 at *
                        have kR3 := cells_at R3.out
                        go_wp2_with fail
                        refine (hTx.out _ HO.out HV.out).mono ?_
                        rintro e w24 ⟨rfl, hG⟩
                        go_wp2_with fail
                        go_roundw
                        case rel => exact ⟨j + 1, by omega, by go_num, hid (GL.out.trans hG fun _ _ h => h)⟩
                        case measure => simp [intOf]; omega
                · obtain rfl : m = j := by omega
                  have hlt' : ¬ (m : Int) < (m : Int) := by omega
                  clear hWp HWL
                  have kR3 := cells_at R3.out
                  go_wp2_with fail
                  refine (hCp.out _ HO.out HV.out).mono ?_
                  rintro e w31 ⟨ids, hids, a31, c31, a32, c32, rfl, hOq, hVq, hG⟩
                  have hyl := (HCE.out ids hids).ylen
                  clear hids HCE hCp kR3 hVq
                  generalize (cpAll xs ls ids).1 = ys9 at *
                  generalize (cpAll xs ls ids).2.1 = ms9 at *
                  rw [HN.out] at hyl
                  rw [hyl] at hOq ⊢
                  have HQL := hid hyl
                  have HQ := hid (hOq.mono (Nat.zero_le _))
                  have BHQ := hid (fun q (h : some q = (Value.slice a31 n c31).ownBlock) => hOq.own_lt h)
                  have zw31 := hG.size
                  replace HO := hid (HO.out.chg hG fun _ _ _ h => h)
                  replace HV := hid (HV.out.chg hG fun _ _ _ h => h)
                  replace HY := hid (HY.out.chg hG fun _ _ h => h)
                  replace HG := hid (HG.out.trans hG fun _ _ h => h)
                  replace R3 := hid (hG.heap R3.out (fun h => h))
                  clear hG hOq hyl
                  have A1 := (Chg.refl (fun _ => False) w31).alloc (.cells #[.slice a31 n c31, .slice a32 ms9.length c32] 67)
                  have RQ := hid (heap_new w31 (.cells #[.slice a31 n c31, .slice a32 ms9.length c32] 67))
                  replace HO := hid (HO.out.chg A1 fun _ _ _ h => h)
                  replace HV := hid (HV.out.chg A1 fun _ _ _ h => h)
                  replace HY := hid (HY.out.chg A1 fun _ _ h => h)
                  replace HG := hid (HG.out.trans A1 fun _ _ h => h)
                  replace R3 := hid (A1.heap R3.out (fun h => h))
                  replace HQ := hid (HQ.out.chg A1 fun _ _ _ h => h)
                  have zw32 : w31.heap.size < (w31.alloc (.cells #[.slice a31 n c31, .slice a32 ms9.length c32] 67)).heap.size := by simp
                  clear A1
                  go_upto_region 37 with fail
                  generalize w31.alloc (.cells #[.slice a31 n c31, .slice a32 ms9.length c32] 67) = w32 at *
                  generalize w31.heap.size = bq at *
                  have kRQ := cells_at RQ.out
                  go_wp2_with fail
                  clear kRQ
                  go_loopw [148] (fun i wx => ∃ (j : Nat) (zz : List (Nat × Nat)), j ≤ n ∧ i = .int .i64 (j : Int) ∧ zz.length = n ∧ Hid (OwnC wx 0 (.slice a31 n c31) zz) ∧ Hid (Chg (fun q => some q = (Value.slice a31 n c31).ownBlock) w32 wx)) (fun i _ => n - (intOf i).toNat)
                  case atStart => exact ⟨0, _, Nat.zero_le _, rfl, HQL.out, HQ, hid (Chg.refl _ _)⟩
                  case round =>
                    obtain ⟨j, zz, hj, rfl, hys, HZ, GZ⟩ := hrel
                    obtain ⟨wo3, rfl⟩ : ∃ wo3 : World, wo3 = wr := ⟨_, rfl⟩
                    by_cases hlt : j < n
                    · as_aux_lemma =>
                        have hlt' : (j : Int) < (n : Int) := by omega
                        obtain ⟨g, cc, cur, hva, hga, hgb, hgd, hgha, hcl⟩ := HZ.out.at2 hys (by omega)
                        have x0 : wo3.cell? ⟨g, j, none⟩ = some (cx (zz.getD j (0, 0))) := by rw [cell_at hgha, hcl j hlt]
                        have fx := frees_at hgha
                        have RQw := hid (GZ.out.heap RQ.out (fun h => by have := BHQ.out _ h; omega))
                        have kQ := cells_at RQw.out
                        have HZ2 := hid (show OwnC (wo3.setCell ⟨g, j, none⟩ (.complex .f32 1107558400 0)) 0 (.slice (some ⟨g, 0, none⟩) n cc) (zz.set j (1107558400, 0)) from OwnC.put (by rw [hva] at HZ; exact HZ.out) j (by omega) (1107558400, 0))
                        have GZ2 := hid (GZ.out.trans ((Chg.refl (fun q => q = g) wo3).setCell (p := ⟨g, j, none⟩) (.inl rfl) (.complex .f32 1107558400 0)) (fun q _ (e : q = g) => by rw [hva, e]; rfl))
                        simp at hva
                        obtain ⟨rfl, rfl⟩ := hva
                        clear hcl hgha HZ GZ
                        generalize zz.getD j (0, 0) = u at *
                        have j0 : (0 : Int) ≤ (j : Int) := by omega
                        go_wp2_with fail
                        go_roundw
                        case rel => exact ⟨j + 1, zz.set j (1107558400, 0), by omega, by go_num, by rw [List.length_set]; exact hys, HZ2, GZ2⟩
                        case measure => simp [intOf]; omega
                    · obtain rfl : n = j := by omega
                      have hlt' : ¬ (n : Int) < (n : Int) := by omega
                      have hG := GZ.out
                      clear HZ GZ hys
                      replace HO := hid (HO.out.chgN hG (fun q h1 h2 => by have := BHQ.out q h2; have := BHO.out q h1; omega))
                      replace HV := hid (HV.out.chgN hG (fun q h1 h2 => by have := BHQ.out q h2; have := BHV.out q h1; omega))
                      replace HY := hid (HY.out.chg hG fun q h1 h2 => by have := BHQ.out q h2; omega)
                      replace HG := hid (HG.out.trans hG fun q h1 h2 => by have := BHQ.out q h2; omega)
                      replace R3 := hid (hG.heap R3.out (fun h => by have := BHQ.out _ h; omega))
                      have zwf3 := hG.size
                      clear hG HQ BHQ RQ HQL
                      obtain ⟨wg, rfl⟩ : ∃ wg : World, wg = wo3 := ⟨_, rfl⟩
                      go_wp2_with fail
                      refine (fresh_calls _ _ _ _ (by obtain ⟨h1, h2, h3⟩ := HY.out; exact ⟨h1, h2, fun k hk => by obtain ⟨b, off, z, h4, h5, h6⟩ := h3 k hk; exact ⟨b, off, z, h4, by have := HG.out.size; omega, h6⟩⟩) 5 (by omega)).mono ?_
                      rintro e w41 ⟨a41, l41, c41, hl41, rfl, hy41, hG⟩
                      replace HO := hid (HO.out.chg hG fun _ _ _ h => h)
                      replace HV := hid (HV.out.chg hG fun _ _ _ h => h)
                      replace HG := hid (HG.out.trans hG fun _ _ h => h)
                      replace R3 := hid (hG.heap R3.out (fun h => h))
                      have HY41 := hid hy41
                      have zw41 := hG.size
                      clear hG hy41 HY
                      go_wp2_with fail
                      refine (MakeRing_calls _ _ _ _ HY41.out).mono ?_
                      rintro e w42 ⟨v42, nr, is, rfl, hR, hG⟩
                      replace HO := hid (HO.out.chg hG fun _ _ _ h => h)
                      replace HV := hid (HV.out.chg hG fun _ _ _ h => h)
                      replace HG := hid (HG.out.trans hG fun _ _ h => h)
                      replace R3 := hid (hG.heap R3.out (fun h => h))
                      obtain ⟨gr, cr, pr, rfl, hat⟩ := hR.at
                      have HRG := hid (hat.mono (Nat.zero_le _))
                      have BHRG := hid (show gr < w42.heap.size from hat.lt.2)
                      have hlen := hat.len
                      have zw42 := hG.size
                      clear hG hat hR HY41
                      have A1 := (Chg.refl (fun _ => False) w42).alloc (.cells #[.slice (some ⟨gr, 0, none⟩) nr cr, .int .i64 ((pr : Nat) : Int), .int .i64 ((is.length : Nat) : Int)] 27)
                      have R22 := hid (heap_new w42 (.cells #[.slice (some ⟨gr, 0, none⟩) nr cr, .int .i64 ((pr : Nat) : Int), .int .i64 ((is.length : Nat) : Int)] 27))
                      replace HO := hid (HO.out.chg A1 fun _ _ _ h => h)
                      replace HV := hid (HV.out.chg A1 fun _ _ _ h => h)
                      replace HG := hid (HG.out.trans A1 fun _ _ h => h)
                      replace R3 := hid (A1.heap R3.out (fun h => h))
                      replace HRG := hid (HRG.out.chg A1 fun h => h)
                      have zw43 : w42.heap.size < (w42.alloc (.cells #[.slice (some ⟨gr, 0, none⟩) nr cr, .int .i64 ((pr : Nat) : Int), .int .i64 ((is.length : Nat) : Int)] 27)).heap.size := by simp
                      clear A1
                      go_upto_region 43 with fail
                      generalize w42.alloc (.cells #[.slice (some ⟨gr, 0, none⟩) nr cr, .int .i64 ((pr : Nat) : Int), .int .i64 ((is.length : Nat) : Int)] 27) = w43 at *
                      generalize w42.heap.size = b22 at *
                      have k22 := cells_at R22.out
                      go_wp2_with fail
                      refine (ItemsOf_calls _ _ nr is HRG.out.ok).mono ?_
                      rintro e w44 ⟨a44, c44, rfl, hO, hG⟩
                      have HI := hid (hO.mono (Nat.zero_le _))
                      have BHI := hid (fun q (h : some q = (Value.slice a44 is.length c44).ownBlock) => hO.own_lt h)
                      have zw44 := hG.size
                      replace HO := hid (HO.out.chg hG fun _ _ _ h => h)
                      replace HV := hid (HV.out.chg hG fun _ _ _ h => h)
                      replace HG := hid (HG.out.trans hG fun _ _ h => h)
                      replace R3 := hid (hG.heap R3.out (fun h => h))
                      replace HRG := hid (HRG.out.chg hG fun h => h)
                      replace R22 := hid (hG.heap R22.out (fun h => h))
                      clear hG hO k22
                      have EE := hid (OwnC.lit w44 [] 33 rfl (by simp) (Nat.le_refl w44.heap.size) #[] rfl)
                      have A1 := (Chg.refl (fun _ => False) w44).alloc (.cells #[] 33)
                      replace HO := hid (HO.out.chg A1 fun _ _ _ h => h)
                      replace HV := hid (HV.out.chg A1 fun _ _ _ h => h)
                      replace HG := hid (HG.out.trans A1 fun _ _ h => h)
                      replace R3 := hid (A1.heap R3.out (fun h => h))
                      replace HRG := hid (HRG.out.chg A1 fun h => h)
                      replace R22 := hid (A1.heap R22.out (fun h => h))
                      replace HI := hid (HI.out.chg A1 fun _ _ _ h => h)
                      have zw45 := A1.size
                      clear A1
                      go_wp2_with (at_builtin; refine wpList_appW _ rfl _ _ rfl w44.heap.size _ _ [] is rfl EE.out rfl HI.out (by simp; omega) (by simp) ?_)
                      intro a46 c46 w46 hO hG
                      have HB24 := hid (fun q (h : some q = (Value.slice (some ⟨w44.heap.size, 0, none⟩) 0 0).ownBlock) => (show q = w44.heap.size by simpa [Value.ownBlock] using h))
                      have hS : OwnC w46 w44.heap.size (.slice a46 is.length c46) is := by simpa using hO
                      have HS := hid (hS.mono (Nat.zero_le _))
                      have BHS := hid (fun q (h : some q = (Value.slice a46 is.length c46).ownBlock) => hS.own_lt h)
                      have zw46 := hG.size
                      replace HO := hid (HO.out.chgN hG (fun q h1 h2 => by have := HB24.out q h2; have := BHO.out q h1; omega))
                      replace HV := hid (HV.out.chgN hG (fun q h1 h2 => by have := HB24.out q h2; have := BHV.out q h1; omega))
                      replace HG := hid (HG.out.trans hG fun q h1 h2 => by have := HB24.out q h2; omega)
                      replace R3 := hid (hG.heap R3.out (fun h => by have := HB24.out _ h; omega))
                      replace HRG := hid (HRG.out.chg hG fun h => by have := HB24.out _ h; have := BHRG.out; omega)
                      replace R22 := hid (hG.heap R22.out (fun h => by have := HB24.out _ h; omega))
                      replace HI := hid (HI.out.chgN hG (fun q h1 h2 => by have := HB24.out q h2; have := BHI.out q h1; omega))
                      clear hO hG hS EE HB24
                      try simp only [List.length_nil, Nat.zero_add]
                      go_wp2_with fail
                      go_loopw [166] (fun i wx => ∃ (j : Nat) (zz : List (Nat × Nat)), j ≤ is.length ∧ i = .int .i64 (j : Int) ∧ zz.length = is.length ∧ Hid (OwnC wx 0 (.slice a44 is.length c44) zz) ∧ Hid (Chg (fun q => some q = (Value.slice a44 is.length c44).ownBlock) w46 wx)) (fun i _ => is.length - (intOf i).toNat)
                      case atStart => exact ⟨0, _, Nat.zero_le _, rfl, rfl, HI, hid (Chg.refl _ _)⟩
                      case round =>
                        obtain ⟨j, zz, hj, rfl, hys, HZ, GZ⟩ := hrel
                        obtain ⟨wo5, rfl⟩ : ∃ wo5 : World, wo5 = wr := ⟨_, rfl⟩
                        by_cases hlt : j < is.length
                        · as_aux_lemma =>
                            have hlt' : (j : Int) < (is.length : Int) := by omega
                            obtain ⟨g, cc, cur, hva, hga, hgb, hgd, hgha, hcl⟩ := HZ.out.at2 hys (by omega)
                            have x0 : wo5.cell? ⟨g, j, none⟩ = some (cx (zz.getD j (0, 0))) := by rw [cell_at hgha, hcl j hlt]
                            have fx := frees_at hgha
                            have HZ2 := hid (show OwnC (wo5.setCell ⟨g, j, none⟩ (.complex .f32 1093664768 0)) 0 (.slice (some ⟨g, 0, none⟩) is.length cc) (zz.set j (1093664768, 0)) from OwnC.put (by rw [hva] at HZ; exact HZ.out) j (by omega) (1093664768, 0))
                            have GZ2 := hid (GZ.out.trans ((Chg.refl (fun q => q = g) wo5).setCell (p := ⟨g, j, none⟩) (.inl rfl) (.complex .f32 1093664768 0)) (fun q _ (e : q = g) => by rw [hva, e]; rfl))
                            simp at hva
                            obtain ⟨rfl, rfl⟩ := hva
                            clear hcl hgha HZ GZ
                            generalize zz.getD j (0, 0) = u at *
                            have j0 : (0 : Int) ≤ (j : Int) := by omega
                            go_wp2_with fail
                            go_roundw
                            case rel => exact ⟨j + 1, zz.set j (1093664768, 0), by omega, by go_num, by rw [List.length_set]; exact hys, HZ2, GZ2⟩
                            case measure => simp [intOf]; omega
                        · obtain rfl : is.length = j := by omega
                          have hlt' : ¬ (is.length : Int) < (is.length : Int) := by omega
                          have hG := GZ.out
                          clear HZ GZ hys
                          replace HO := hid (HO.out.chgN hG (fun q h1 h2 => by have := BHI.out q h2; have := BHO.out q h1; omega))
                          replace HV := hid (HV.out.chgN hG (fun q h1 h2 => by have := BHI.out q h2; have := BHV.out q h1; omega))
                          replace HG := hid (HG.out.trans hG fun q h1 h2 => by have := BHI.out q h2; omega)
                          replace R3 := hid (hG.heap R3.out (fun h => by have := BHI.out _ h; omega))
                          replace HRG := hid (HRG.out.chg hG fun h => by have := BHI.out _ h; have := BHRG.out; omega)
                          replace R22 := hid (hG.heap R22.out (fun h => by have := BHI.out _ h; omega))
                          replace HS := hid (HS.out.chgN hG (fun q h1 h2 => by have := BHI.out q h2; have := BHS.out q h1; omega))
                          clear hG HI BHI BHS
                          obtain ⟨wh, rfl⟩ : ∃ wh : World, wh = wo5 := ⟨_, rfl⟩
                          have kR3 := cells_at R3.out
                          go_wp2_with fail
                          refine (hTx.out _ HO.out HV.out).mono ?_
                          rintro e w50 ⟨rfl, hG⟩
                          replace HG := hid (HG.out.trans hG fun _ _ h => h)
                          replace HRG := hid (HRG.out.chg hG fun h => h)
                          replace R22 := hid (hG.heap R22.out (fun h => h))
                          replace HS := hid (HS.out.chg hG fun _ _ _ h => h)
                          clear hG kR3
                          have k22 := cells_at R22.out
                          go_wp2_with fail
                          refine (ItemsOf_calls _ _ nr is HRG.out.ok).mono ?_
                          rintro e w51 ⟨a51, c51, rfl, hO, hG⟩
                          replace HG := hid (HG.out.trans hG fun _ _ h => h)
                          replace HS := hid (HS.out.chg hG fun _ _ _ h => h)
                          have HI := hid (hO.mono (Nat.zero_le _))
                          clear hG hO k22
                          go_wp2_with fail
                          refine (MakeSame_refl _ _ _ is (by omega) HI.out HS.out).mono ?_
                          rintro e w52 ⟨rfl, nn, rfl⟩
                          go_wp2_with fail
                          go_ret
                          exact ⟨rfl, HG.out.drewN nn⟩
  · have hb1 : (1048576 : Int) < (len : Int) := by omega
    go_enter Try.func12, Try.ntmps12
    go_wp2_with fail
    go_ret
    exact ⟨rfl, Chg.refl _ w⟩
end Go.Proofs.Ytopkehknaclhlaa
