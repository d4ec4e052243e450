/- The law on frames, walked: for all bytes. No condition. -/
import Derived.Test.YtopkehknaclhlaaFk
import Derived.Test.YtopkehknaclhlaaTm
import Derived.Test.YtopkehknaclhlaaGa
namespace Go.Proofs.Ytopkehknaclhlaa
open Go Go.RowKit

theorem apart_FC {w : World} {b1 b2 : Nat} {v u : Value} {fs : List Fr8} {cs : List (Nat × Nat)} (h : OwnF w b1 v fs) (k : OwnC w b2 u cs) {g : Nat} (h1 : some g = v.ownBlock) (h2 : some g = u.ownBlock) : False := by
  rcases h.2 with ⟨rfl, _⟩ | ⟨g1, cap, cur, rfl, _, hh, _⟩
  · simp [Value.ownBlock] at h1
  · rcases k.2 with ⟨rfl, _⟩ | ⟨g2, cap2, cur2, rfl, _, kk, _⟩
    · simp [Value.ownBlock] at h2
    · simp [Value.ownBlock] at h1 h2
      subst h1
      subst h2
      rw [hh] at kk
      simp only [Option.some.injEq, Obj.cells.injEq] at kk
      exact absurd kk.2.1 (by decide)

set_option maxRecDepth 100000 in
set_option maxHeartbeats 8000000 in
theorem walkFnFrames (w : World) (a : Option Addr) (len cap : Nat) (h0 : Bytes0 w w.heap.size a len cap) :
    Calls Try.prog 10 #[.slice a len cap] w (LawPost w) := by
  by_cases hbig : len ≤ 1048576
  · have HY := hid (show Bytes w w.heap.size a len cap from ⟨h0.1, hbig, h0.2.2⟩)
    clear h0
    have hb1 : ¬ (1048576 : Int) < (len : Int) := by omega
    go_enter Try.func10, Try.ntmps10
    go_wp2_with fail
    refine (MakeSamples_calls _ _ _ _ HY.out 60 (by omega) (by omega)).mono ?_
    rintro e w1 ⟨al, cl, xs, lx, rfl, OX, g1⟩
    have lz1 := g1.size
    have X1 := hid OX
    have G1 := hid g1
    have Y1 := hid (HY.out.up g1.size g1 fun _ _ h => h)
    clear OX g1
    go_wp2_with fail
    refine (FramesOf_calls _ _ xs (by omega) (X1.out.mono (Nat.zero_le _))).mono ?_
    rintro e w2 ⟨a2, c2, fs0, a3, c3, ys, rfl, hsplit, hy8, hf0, o2, o3, g2⟩
    have lz2 := g2.size
    have X2 := hid (X1.out.chg g2 fun _ _ _ h => h)
    have F2 := hid o2
    have R2 := hid o3
    have G2 := hid (G1.out.trans g2 fun _ _ h => h)
    have Y2 := hid (Y1.out.up g2.size g2 fun _ _ h => h)
    have HSP := hid hsplit
    have hy8b : decide ((8 : Int) ≤ (ys.length : Int)) = false := by simp; omega
    have hxl : (fs0.flatMap smp).length + ys.length ≤ 60 := by
      have e := congrArg List.length hsplit
      rw [List.length_append] at e
      omega
    have X1B := hid (fun q (h : some q = (Value.slice al xs.length cl).ownBlock) => (X1.out.own_lt h).2)
    have F2B := hid (fun q (h : some q = (Value.slice a2 fs0.length c2).ownBlock) => (F2.out.own_lt h).2)
    have R2B := hid (fun q (h : some q = (Value.slice a3 ys.length c3).ownBlock) => (R2.out.own_lt h).2)
    clear o2 o3 g2 X1 G1 hsplit
    -- the list again
    have E3 := hid (OwnC.lit w2 [] 33 rfl (by simp) (Nat.le_refl w2.heap.size) #[] rfl)
    have A3 := (Chg.refl (fun _ => False) w2).alloc (.cells #[] 33)
    have X3 := hid (X2.out.chg A3 fun _ _ _ h => h)
    have F3 := hid (F2.out.chg A3 fun _ _ _ h => h)
    have R3 := hid (R2.out.chg A3 fun _ _ _ h => h)
    have G3 := hid (G2.out.trans A3 fun _ _ h => h)
    have Y3 := hid (Y2.out.up A3.size A3 fun _ _ h => h)
    clear A3 X2 F2 R2 G2 Y2
    go_wp2_with fail
    refine (SamplesOf_calls _ _ fs0 (by omega) (F3.out.mono (Nat.zero_le _))).mono ?_
    rintro e w4 ⟨a4, c4, rfl, o4, g4⟩
    have lz4 := g4.size
    simp at lz4
    have S4 := hid o4
    have E4 := hid (E3.out.chg g4 fun _ _ _ h => h)
    have X4 := hid (X3.out.chg g4 fun _ _ _ h => h)
    have F4 := hid (F3.out.chg g4 fun _ _ _ h => h)
    have R4 := hid (R3.out.chg g4 fun _ _ _ h => h)
    have G4 := hid (G3.out.trans g4 fun _ _ h => h)
    have Y4 := hid (Y3.out.up g4.size g4 fun _ _ h => h)
    clear o4 g4 E3 X3 F3 R3 G3 Y3
    generalize fs0.flatMap smp = zs at *
    go_wp2_with (at_builtin; refine wpList_appW _ rfl _ _ rfl w2.heap.size _ _ [] zs rfl E4.out rfl (S4.out.mono (Nat.zero_le _)) (by simp; omega) (by omega) ?_)
    intro a5 c5 w5 hO5 hG5
    have O5 := hid (show OwnC w5 w2.heap.size (.slice a5 zs.length c5) zs by simpa using hO5)
    have lz5 : w4.heap.size ≤ w5.heap.size := hG5.size
    have HB5 : ∀ q, some q = (Value.slice (some ⟨w2.heap.size, 0, none⟩) 0 0).ownBlock → q = w2.heap.size := fun q h => by simpa [Value.ownBlock] using h
    have X5 := hid (X4.out.chgN hG5 (fun q h1 h2 => by have := HB5 q h2; have := X1B.out q h1; omega))
    have F5 := hid (F4.out.chgN hG5 (fun q h1 h2 => by have := HB5 q h2; have := F2B.out q h1; omega))
    have R5 := hid (R4.out.chgN hG5 (fun q h1 h2 => by have := HB5 q h2; have := R2B.out q h1; omega))
    have G5 := hid (G4.out.trans hG5 (fun q h1 h2 => by have := HB5 q h2; omega))
    clear hO5 hG5 E4 X4 F4 R4 G4 S4
    go_wp2_with (at_builtin; refine wpList_appW _ rfl _ _ rfl w2.heap.size _ _ zs ys rfl O5.out rfl (R5.out.mono (Nat.zero_le _)) (by omega) (by omega) ?_)
    intro a6 c6 w6 hO6 hG6
    have O6 := hid (show OwnC w6 0 (.slice a6 (zs.length + ys.length) c6) xs by rw [← HSP.out]; exact hO6.mono (Nat.zero_le _))
    have lz6 : w5.heap.size ≤ w6.heap.size := hG6.size
    have X6 := hid (X5.out.chgN hG6 (fun q h1 h2 => by have := (O5.out.own_lt h2).1; have := X1B.out q h1; omega))
    have F6 := hid (F5.out.chgN hG6 (fun q h1 h2 => by exact apart_FC F5.out O5.out h1 h2))
    have G6 := hid (G5.out.trans hG6 (fun q h1 h2 => by have := (O5.out.own_lt h2).1; omega))
    clear hO6 hG6 O5 X5 F5 R5 G5 hy8b
    go_wp2_with fail
    refine (MakeSame_refl _ _ _ xs (by omega) O6.out (X6.out.mono (Nat.zero_le _))).mono ?_
    rintro e w7' ⟨rfl, m7, rfl⟩
    have F7 := hid (F6.out.chg ((Chg.refl (fun _ => False) w6).drewN m7) fun _ _ _ h => h)
    have G7 := hid (G6.out.drewN m7)
    have lz7 : w6.heap.size ≤ (w6.drewN m7).heap.size := Nat.le_refl _
    clear O6 X6 F6 G6 HSP
    generalize w6.drewN m7 = w7 at *
    have Y7 := hid (HY.out.up G7.out.size G7.out fun _ _ h => h)
    go_wp2_with fail
    refine (fresh_calls _ _ _ _ Y7.out 3 (by omega)).mono ?_
    rintro e w8 ⟨af, lf, cf, lf1, rfl, BF, g8⟩
    have B8 := hid BF
    have F8 := hid (F7.out.chg g8 fun _ _ _ h => h)
    have G8 := hid (G7.out.trans g8 fun _ _ h => h)
    have lz8 := g8.size
    clear BF g8 F7 G7 Y7
    go_wp2_with fail
    refine (MakeFrames_calls _ _ _ _ B8.out).mono ?_
    rintro e w9 ⟨a9, c9, fs1, hf1, rfl, o9, g9⟩
    have F9 := hid (F8.out.chg g9 fun _ _ _ h => h)
    have O9 := hid (o9.mono (Nat.zero_le _))
    have G9 := hid (G8.out.trans g9 fun _ _ h => h)
    have lz9 := g9.size
    clear o9 g9 F8 G8 B8
    go_wp2_with (at_builtin; refine wpList_appR encF _ rfl _ _ rfl w1.heap.size _ _ fs0 fs1 rfl F9.out rfl O9.out (by omega) (by omega) ?_)
    intro a10 c10 w10 hF10 hG10
    have F10 := hid hF10
    have G10 := hid (G9.out.trans hG10 (fun q h1 h2 => by have := (F9.out.own_lt h2).1; omega))
    have lz10 : w9.heap.size ≤ w10.heap.size := hG10.size
    have hn10 : (fs0 ++ fs1).length = fs0.length + fs1.length := by simp
    clear hF10 hG10 F9 O9 G9
    generalize fs0 ++ fs1 = fs at *
    generalize hn : fs0.length + fs1.length = n at *
    have hn60 : n ≤ 67 := by omega
    have HN := hid hn10
    clear hn hn10
    go_wp2_with fail
    refine (CountFrames_calls _ _ fs (by have := HN.out; omega) (F10.out.mono (Nat.zero_le _))).mono ?_
    rintro e w11 ⟨a11, c11, a12, c12, ps, cs, rfl, hcnt, oK, oN, g11⟩
    have hkl : (kindsOf fs ps).length = ps.length := by simp [kindsOf]
    have hcl : cs.length = ps.length := hcnt.len.symm
    rw [hkl] at oK ⊢
    rw [hcl] at oN ⊢
    have CN := hid hcnt
    have KN := hid oK
    have NN := hid oN
    have F11 := hid (F10.out.chg g11 fun _ _ _ h => h)
    have G11 := hid (G10.out.trans g11 fun _ _ h => h)
    have lz11 := g11.size
    have HKL := hid hkl
    have HCL := hid hcl
    clear hcnt oK oN g11 F10 G10 hkl hcl
    generalize hm : ps.length = m at *
    have HM := hid hm
    have hm60 : m ≤ 67 := by
      have h1 := len_le_sum cs (fun c hc => (CN.out.pos c hc).1)
      have h2 := CN.out.sum
      have h3 := HCL.out
      have h4 := HN.out
      omega
    clear hm
    clear Y1 Y4 HB5 X1B F2B R2B
    go_wp2_with fail
    go_loopw [8, 9, 61] (fun s l i wr => ∃ (k : Nat) (last : Int), k ≤ m ∧ i = .int .i64 (k : Int) ∧ s = .int .i64 ((cs.take k).sum) ∧ l = .int .i64 last ∧ Hid (-1 ≤ last ∧ last ≤ 1000 ∧ ∀ q (hq : q < ps.length), k ≤ q → last < ((ps[q] : Nat) : Int)) ∧ Hid (Chg (fun _ => False) w11 wr)) (fun _ _ i _ => m - (intOf i).toNat)
    case atStart => exact ⟨0, -1, by omega, rfl, rfl, rfl, hid ⟨by omega, by omega, fun q hq _ => by omega⟩, hid (Chg.refl _ w11)⟩
    case round =>
      obtain ⟨k, last, hk, rfl, rfl, rfl, HL, G⟩ := hrel
      obtain ⟨wo, rfl⟩ : ∃ wo : World, wo = wr := ⟨_, rfl⟩
      have hsb := sum_take_le cs k (fun c hc => (CN.out.pos c hc).1)
      have hst : cs.sum ≤ 67 := by have := CN.out.sum; have := HN.out; omega
      have s0 := hsb.1
      have s1 : (cs.take k).sum ≤ 67 := by have := hsb.2; omega
      clear hsb
      by_cases hlt : k < m
      · have hlt' : (k : Int) < (m : Int) := by omega
        have hkp : k < ps.length := by have := HM.out; omega
        have HKN := hid (KN.out.chg G.out fun _ _ _ h => h)
        have HNN := hid (NN.out.chg G.out fun _ _ _ h => h)
        have HFN := hid (F11.out.chg G.out fun _ _ _ h => h)
        obtain ⟨g, cc, hv, hg0, hg1, hgc, f, hxk, hcells⟩ := OwnF.frame HKN.out HKL.out hlt
        simp at hv
        obtain ⟨rfl, rfl⟩ := hv
        obtain ⟨gn, cn, cur, hv2, hgn0, hgn1, hgn2, hgh, z, hz, hcz⟩ := OwnN.int HNN.out HCL.out hlt
        simp at hv2
        obtain ⟨rfl, rfl⟩ := hv2
        have hzp := CN.out.pos z (List.mem_of_getElem? hz)
        have hz1 : 1 ≤ z := hzp.1
        have hz2 : z ≤ 67 := by have := hzp.2; have := HN.out; omega
        have hfk : fs.getD ps[k] Z8 = f := by
          have h := kinds_get fs ps hkp
          rw [hxk] at h
          exact (Option.some.inj h).symm
        have HF := hid hfk
        have HSUM := hid (show (cs.take (k + 1)).sum = (cs.take k).sum + z by rw [List.take_add_one, hz]; simp)
        have HGH := hid hgh
        have HCZ := hid hcz
        have hz1b : decide (z < 1) = false := by simp; omega
        have c0 := hcells 0 (by omega)
        have c1 := hcells 1 (by omega)
        have c2 := hcells 2 (by omega)
        have c3 := hcells 3 (by omega)
        have c4 := hcells 4 (by omega)
        have c5 := hcells 5 (by omega)
        have c6 := hcells 6 (by omega)
        have c7 := hcells 7 (by omega)
        simp only [Nat.add_zero] at c0
        clear hcells hxk hz hzp hfk hgh
        generalize (cs.take k).sum = S at *
        have HFN1 := hid (HFN.out.chg ((Chg.refl (fun _ => False) wo).alloc (.cells (FA f) 59)) fun _ _ _ h => h)
        go_wp2_with fail
        refine (FindFrame_calls _ fs f _ (by have := HN.out; omega) (HFN1.out.mono (Nat.zero_le _))).mono ?_
        rintro e w12 ⟨r, hr, hr1, hr2, rfl, g12⟩
        have hfind := CN.out.find hkp (r := r) (by rw [HF.out]; exact hr)
        rw [HF.out] at hfind
        have GT := ((Chg.refl (fun _ => False) wo).alloc (.cells (FA f) 59)).trans g12 fun _ _ h => h
        have N12 := hid (g12.heap (heap_new wo (.cells (FA f) 59)) id)
        have Z12 := hid (GT.cell HCZ.out id)
        have K12 := hid (HKN.out.chg GT fun _ _ _ h => h)
        have G12 := hid (G.out.trans GT fun _ _ h => h)
        clear c0 c1 c2 c3 c4 c5 c6 c7 hr g12 GT HFN1 HFN HKN hcz HGH HCZ HNN G
        have z12 := Z12.out
        have n12 := cells_at N12.out
        have hlast := HL.out.1
        have hlast2 := HL.out.2.1
        rcases hfind with ⟨he, hrv⟩ | ⟨he, hrv⟩
        · have HSELF := hid (fun r2 (h : IdxF (kindsOf fs ps) f r2) => CN.out.self hkp (r := r2) (by rw [HF.out]; exact he) (by rw [HF.out]; exact h))
          have hpk : last < ((ps[k] : Nat) : Int) := HL.out.2.2 k hkp (Nat.le_refl k)
          have hps := CN.out.lt ps[k] (List.getElem_mem hkp)
          have hp67 : ((ps[k] : Nat) : Int) ≤ 67 := by have := HN.out; omega
          have HLN := hid (show ∀ q (hq : q < ps.length), k + 1 ≤ q → ((ps[k] : Nat) : Int) < ((ps[q] : Nat) : Int) from fun q hq hkq => by
            have := List.pairwise_iff_getElem.mp CN.out.inc k q hkp hq (by omega)
            omega)
          have HE := hid he
          have hp0 : 0 ≤ ((ps[k] : Nat) : Int) := by omega
          generalize ((ps[k] : Nat) : Int) = pv at *
          have hlb : decide (pv ≤ last) = false := by simp; omega
          subst hrv
          clear he hps hr1 hr2
          have hEF := EqualFrames_calls
          go_wp2_with fail
          refine ((EqualFrames_calls _ f f).mono fun e' w' h => (show e' = .returned (.bool true) ∧ Chg (fun _ => False) _ w' from ⟨by rw [h.1, HE.out], h.2⟩)).mono ?_
          rintro e w13 ⟨rfl, g13⟩
          have n13 := cells_at (g13.heap N12.out id)
          have K13 := hid (K12.out.chg g13 fun _ _ _ h => h)
          have G13 := hid (G12.out.trans g13 fun _ _ h => h)
          clear n12 z12 g13
          go_wp2_with fail
          refine (FindFrame_calls _ (kindsOf fs ps) f _ (by have := HKL.out; omega) (K13.out.mono (Nat.zero_le _))).mono ?_
          rintro e w14 ⟨r2, hr2', _, _, rfl, g14⟩
          obtain rfl := HSELF.out r2 hr2'
          have G14 := hid (G13.out.trans g14 fun _ _ h => h)
          clear n13 hr2' g14
          go_wp2_with fail
          go_roundw
          case rel => exact ⟨k + 1, r, by omega, by go_num, by rw [HSUM.out], rfl, hid ⟨by omega, by omega, HLN.out⟩, G14⟩
          case measure => simp [intOf]; omega
        · subst hrv
          have HE := hid he
          clear he
          go_wp2_with fail
          refine ((EqualFrames_calls _ f f).mono fun e' w' h => (show e' = .returned (.bool false) ∧ Chg (fun _ => False) _ w' from ⟨by rw [h.1, HE.out], h.2⟩)).mono ?_
          rintro e w13 ⟨rfl, g13⟩
          have G13 := hid (G12.out.trans g13 fun _ _ h => h)
          clear n12 z12 g13
          go_wp2_with fail
          go_roundw
          case rel => exact ⟨k + 1, last, by omega, by go_num, by rw [HSUM.out], rfl, hid ⟨hlast, hlast2, fun q hq hkq => HL.out.2.2 q hq (by omega)⟩, G13⟩
          case measure => simp [intOf]; omega
      · obtain rfl : k = m := by omega
        have hlt' : ¬ (k : Int) < (k : Int) := by omega
        have htot : (cs.take k).sum = (n : Int) := by rw [← HCL.out, List.take_length, CN.out.sum, HN.out]
        rw [htot]
        clear htot s0 s1 hst
        have HFN := hid (F11.out.chg G.out fun _ _ _ h => h)
        have GA := hid (G11.out.trans G.out fun _ _ h => h)
        clear HL G KN NN CN F11 G11
        go_wp2_with fail
        go_loopw [103] (fun i wr => ∃ (k2 : Nat), k2 ≤ n ∧ i = .int .i64 (k2 : Int) ∧ Hid (Chg (fun _ => False) wo wr)) (fun i _ => n - (intOf i).toNat)
        case atStart => exact ⟨0, by omega, rfl, hid (Chg.refl _ wo)⟩
        case round =>
          obtain ⟨k2, hk2, rfl, G⟩ := hrel
          obtain ⟨wq, rfl⟩ : ∃ wq : World, wq = wr := ⟨_, rfl⟩
          by_cases hl2 : k2 < n
          · have hl2' : (k2 : Int) < (n : Int) := by omega
            have HF2 := hid (HFN.out.chg G.out fun _ _ _ h => h)
            obtain ⟨g, cc, hv, hg0, hg1, hgc, f, hxk, hcells⟩ := OwnF.frame HF2.out HN.out hl2
            simp at hv
            obtain ⟨rfl, rfl⟩ := hv
            have c0 := hcells 0 (by omega)
            have c1 := hcells 1 (by omega)
            have c2 := hcells 2 (by omega)
            have c3 := hcells 3 (by omega)
            have c4 := hcells 4 (by omega)
            have c5 := hcells 5 (by omega)
            have c6 := hcells 6 (by omega)
            have c7 := hcells 7 (by omega)
            simp only [Nat.add_zero] at c0
            have N1 := hid (heap_new wq (.cells (FA f) 59))
            have GB := hid ((GA.out.trans G.out fun _ _ h => h).alloc (.cells (FA f) 59))
            have GQ := hid (G.out.alloc (.cells (FA f) 59))
            clear hcells hxk HF2 G
            go_wp2_with fail
            refine (TurnBack_one _ f).mono ?_
            rintro e w12 ⟨rfl, g12⟩
            have N2 := hid (g12.heap N1.out id)
            have GB2 := hid (GB.out.trans g12 fun _ _ h => h)
            have GQ2 := hid (GQ.out.trans g12 fun _ _ h => h)
            clear c0 c1 c2 c3 c4 c5 c6 c7 g12 N1 GB GQ
            go_wp2_with fail
            refine (TurnBack_two _ f).mono ?_
            rintro e w13 ⟨rfl, g13⟩
            have N3 := hid (heap_old (o' := .cells (FA f) 59) (g13.heap N2.out id))
            have M3 := hid (heap_new w13 (.cells (FA f) 59))
            have GB3 := hid ((GB2.out.trans g13 fun _ _ h => h).alloc (.cells (FA f) 59))
            have GQ3 := hid ((GQ2.out.trans g13 fun _ _ h => h).alloc (.cells (FA f) 59))
            have lw13 := g13.size
            have k3 := cells_at N3.out
            clear g13 N2 GB2 GQ2
            go_wp2_with fail
            refine (SealFrame_calls _ f).mono ?_
            rintro e w14 ⟨x, y, hx, hy, rfl, g14⟩
            have HX := hid hx
            have HY := hid hy
            have lw14 := g14.size
            simp at lw14
            have N4 := hid (heap_old (o' := .cells (FA (sl f x y)) 59) (g14.heap N3.out id))
            have M4 := hid (heap_old (o' := .cells (FA (sl f x y)) 59) (g14.heap M3.out id))
            have S4 := hid (heap_new w14 (.cells (FA (sl f x y)) 59))
            have GB4 := hid ((GB3.out.trans g14 fun _ _ h => h).alloc (.cells (FA (sl f x y)) 59))
            have GQ4 := hid ((GQ3.out.trans g14 fun _ _ h => h).alloc (.cells (FA (sl f x y)) 59))
            have HS7 := hid (show sl f x y 7 = (Op.negFloat .f32 x, Op.negFloat .f32 y) from rfl)
            clear k3 hx hy g14 N3 M3 GB3 GQ3
            have HIS := hid (fun w => IsSealed_calls w f x y HX.out HY.out)
            generalize sl f x y = sf at *
            clear HX HY
            go_wp2_with fail
            go_loopw [17, 18] (fun b i wr => ∃ (k3 : Nat) (bo : Bool), k3 ≤ 8 ∧ i = .int .i64 (k3 : Int) ∧ b = .bool bo ∧ Hid (bo = true → 7 < k3 → isN .f32 x = false ∧ isN .f32 y = false) ∧ Hid (Chg (fun _ => False) (w14.alloc (.cells (FA sf) 59)) wr)) (fun _ i _ => 8 - (intOf i).toNat)
            case atStart => exact ⟨0, true, by omega, rfl, rfl, hid (fun _ h => by omega), hid (Chg.refl _ _)⟩
            case round =>
              obtain ⟨k3, bo, hk3, rfl, rfl, HBO, G⟩ := hrel
              have S5 := hid (G.out.heap S4.out id)
              by_cases hl3 : k3 < 8
              · have hl3' : (k3 : Int) < 8 := by omega
                have cs1 : wr.cell? ⟨w14.heap.size, k3, none⟩ = some (.complex .f32 (sf k3).1 (sf k3).2) := (cell_at S5.out).trans (FA_get _ hl3)
                go_wp2_with fail
                go_region
                generalize hD1 : fbin .sub .f32 (sf k3).1 (sf k3).1 wr.drew = D1
                generalize hD2 : fbin .sub .f32 (sf k3).2 (sf k3).2 (wr.drewN (1 + (fask .sub .f32 (sf k3).1 (sf k3).1).toNat)) = D2
                have HD1 := hid (show isN .f32 (sf k3).1 = true → isN .f32 D1 = true from fun h => hD1 ▸ fbin_sub_nan h _ _)
                have HD2 := hid (show isN .f32 (sf k3).2 = true → isN .f32 D2 = true from fun h => hD2 ▸ fbin_sub_nan h _ _)
                clear hD1 hD2 cs1
                cases bo
                · go_wp2_with fail
                  go_roundw
                  case rel => exact ⟨k3 + 1, false, by omega, by go_num, rfl, hid (fun h => by cases h), hid (G.out.drewN _)⟩
                  case measure => simp [intOf]; omega
                · cases t1 : (FloatKind.f32.format.order D1 0 == some .eq)
                  · go_wp2_with fail
                    go_roundw
                    case rel => exact ⟨k3 + 1, false, by omega, by go_num, rfl, hid (fun h => by cases h), hid (G.out.drewN _)⟩
                    case measure => simp [intOf]; omega
                  · cases t2 : (FloatKind.f32.format.order D2 0 == some .eq)
                    · go_wp2_with fail
                      go_roundw
                      case rel => exact ⟨k3 + 1, false, by omega, by go_num, rfl, hid (fun h => by cases h), hid (G.out.drewN _)⟩
                      case measure => simp [intOf]; omega
                    · have HB2 := hid (show (true = true → 7 < k3 + 1 → isN .f32 x = false ∧ isN .f32 y = false) from fun _ h7 => by
                        obtain rfl : k3 = 7 := by omega
                        have d1 : isN .f32 D1 = false := by
                          cases h : isN .f32 D1
                          · rfl
                          · rw [order_nan_left _ _ _ h] at t1; cases t1
                        have d2 : isN .f32 D2 = false := by
                          cases h : isN .f32 D2
                          · rfl
                          · rw [order_nan_left _ _ _ h] at t2; cases t2
                        have q1 : isN .f32 (sf 7).1 = false := by
                          cases h : isN .f32 (sf 7).1
                          · rfl
                          · rw [HD1.out h] at d1; cases d1
                        have q2 : isN .f32 (sf 7).2 = false := by
                          cases h : isN .f32 (sf 7).2
                          · rfl
                          · rw [HD2.out h] at d2; cases d2
                        rw [HS7.out] at q1 q2
                        rw [isN_neg] at q1 q2
                        exact ⟨q1, q2⟩)
                      go_wp2_with fail
                      go_roundw
                      case rel => exact ⟨k3 + 1, true, by omega, by go_num, rfl, HB2, hid (G.out.drewN _)⟩
                      case measure => simp [intOf]; omega
              · obtain rfl : k3 = 8 := by omega
                have hl3' : ¬ ((8 : Nat) : Int) < 8 := by omega
                have N5 := hid (G.out.heap N4.out id)
                have M5 := hid (G.out.heap M4.out id)
                have n5 := cells_at N5.out
                have m5 := cells_at M5.out
                have s5 := cells_at S5.out
                have GF := hid (GQ4.out.trans G.out fun _ _ h => h)
                cases hef : eqFr f f
                · have HEF := hid hef
                  clear hef
                  go_wp2_with fail
                  refine ((EqualFrames_calls _ f f).mono fun e' w' h => (show e' = .returned (.bool false) ∧ Chg (fun _ => False) _ w' from ⟨by rw [h.1, HEF.out], h.2⟩)).mono ?_
                  rintro e w15 ⟨rfl, g15⟩
                  have s6 := cells_at (g15.heap S5.out id)
                  cases bo
                  · go_wp2_with fail
                    go_roundw
                    case rel => exact ⟨k2 + 1, by omega, by go_num, hid (GF.out.trans g15 fun _ _ h => h)⟩
                    case measure => simp [intOf]; omega
                  · have HNN := hid (HBO.out rfl (by omega))
                    clear n5 m5 s5
                    go_wp2_with fail
                    refine (HIS.out _).mono ?_
                    rintro e w16 ⟨b, hb, rfl, g16⟩
                    obtain rfl := hb HNN.out.1 HNN.out.2
                    go_wp2_with fail
                    go_roundw
                    case rel => exact ⟨k2 + 1, by omega, by go_num, hid ((GF.out.trans g15 fun _ _ h => h).trans g16 fun _ _ h => h)⟩
                    case measure => simp [intOf]; omega
                · have HEF := hid hef
                  clear hef
                  go_wp2_with fail
                  refine ((EqualFrames_calls _ f f).mono fun e' w' h => (show e' = .returned (.bool true) ∧ Chg (fun _ => False) _ w' from ⟨by rw [h.1, HEF.out], h.2⟩)).mono ?_
                  rintro e w15 ⟨rfl, g15⟩
                  have n6 := cells_at (g15.heap N5.out id)
                  have m6 := cells_at (g15.heap M5.out id)
                  have S6 := hid (g15.heap S5.out id)
                  clear n5 m5 s5
                  go_wp2_with fail
                  refine ((EqualFrames_calls _ f f).mono fun e' w' h => (show e' = .returned (.bool true) ∧ Chg (fun _ => False) _ w' from ⟨by rw [h.1, HEF.out], h.2⟩)).mono ?_
                  rintro e w16 ⟨rfl, g16⟩
                  have s7 := cells_at (g16.heap S6.out id)
                  clear n6 m6
                  cases bo
                  · go_wp2_with fail
                    go_roundw
                    case rel => exact ⟨k2 + 1, by omega, by go_num, hid ((GF.out.trans g15 fun _ _ h => h).trans g16 fun _ _ h => h)⟩
                    case measure => simp [intOf]; omega
                  · have HNN := hid (HBO.out rfl (by omega))
                    go_wp2_with fail
                    refine (HIS.out _).mono ?_
                    rintro e w17 ⟨b, hb, rfl, g17⟩
                    obtain rfl := hb HNN.out.1 HNN.out.2
                    go_wp2_with fail
                    go_roundw
                    case rel => exact ⟨k2 + 1, by omega, by go_num, hid (((GF.out.trans g15 fun _ _ h => h).trans g16 fun _ _ h => h).trans g17 fun _ _ h => h)⟩
                    case measure => simp [intOf]; omega
          · obtain rfl : k2 = n := by omega
            have hl2' : ¬ (k2 : Int) < (k2 : Int) := by omega
            go_wp2_with fail
            go_ret
            exact ⟨by simp, GA.out.trans G.out fun _ _ h => h⟩
  · have hb1 : (1048576 : Int) < (len : Int) := by omega
    clear h0
    go_enter Try.func10, Try.ntmps10
    go_wp2_with fail
    go_ret
    exact ⟨rfl, Chg.refl _ w⟩
end Go.Proofs.Ytopkehknaclhlaa
