/- The walk of FnSliced. No condition. (Printed by gen_vn.py.) -/
import Derived.Test.YtopkehknaclhlaaVm
import Derived.Test.YtopkehknaclhlaaWh
namespace Go.Proofs.Ytopkehknaclhlaa
open Go Go.RowKit

/-- What the first loop keeps. -/
def SlRel (w : World) (a : Option Addr) (len cap : Nat) (xs : List (Nat × Nat)) (zs : List Int) (smp : List (Nat × Nat)) (a1 : Option Addr) (c1 : Nat) (a2 : Option Addr) (c2 b3 b4 : Nat) (ax : Option Addr) (n cx : Nat) (wr : World) (a6 : Option Addr) (c6 : Nat) (a7 : Option Addr) (c7 : Nat) (ct : Int) : Prop :=
  Hid (Bytes wr w.heap.size a len cap) ∧ Hid (OwnC wr 0 (.slice a1 xs.length c1) xs) ∧ Hid (OwnN wr 0 (.slice a2 xs.length c2) zs) ∧ Hid (wr.heap[b3]? = some (.cells #[.slice a1 xs.length c1, .slice a2 xs.length c2] 36 (0, 0))) ∧ Hid (OwnC wr 0 (.slice a6 xs.length c6) xs) ∧ Hid (OwnN wr 0 (.slice a7 xs.length c7) zs) ∧ Hid (wr.heap[b4]? = some (.cells #[.int .i64 (6), .complex .f32 0 0, .complex .f32 0 0, .float .f32 0, .slice none 0 0, .int .i64 (0), .int .i64 (0), .slice a6 xs.length c6, .slice a7 xs.length c7, .int .i64 (ct), .int .i64 (0)] 38 (0, 0))) ∧ Hid (OwnC wr 0 (.slice ax n cx) smp) ∧ Hid (Chg (fun _ => False) w wr)
theorem SlRel.step {w wd W : World} {a : Option Addr} {len cap : Nat} {xs : List (Nat × Nat)} {zs : List Int} {smp : List (Nat × Nat)} {a1 : Option Addr} {c1 : Nat} {a2 : Option Addr} {c2 b3 b4 : Nat} {ax : Option Addr} {n cx : Nat} {a6 : Option Addr} {c6 : Nat} {a7 : Option Addr} {c7 : Nat} {ct : Int} {cs : Array Value}
    (HY : Hid (Bytes wd w.heap.size a len cap)) (HO : Hid (OwnC wd 0 (.slice a1 xs.length c1) xs)) (HV : Hid (OwnN wd 0 (.slice a2 xs.length c2) zs)) (R3 : Hid (wd.heap[b3]? = some (.cells #[.slice a1 xs.length c1, .slice a2 xs.length c2] 36 (0, 0)))) (HO8 : Hid (OwnC wd 0 (.slice a6 xs.length c6) xs)) (HV8 : Hid (OwnN wd 0 (.slice a7 xs.length c7) zs)) (R4 : Hid (wd.heap[b4]? = some (.cells cs 38 (0, 0)))) (HX : Hid (OwnC wd 0 (.slice ax n cx) smp)) (HG : Hid (Chg (fun _ => False) w wd))
    (h1 : b3 ≠ b4) (h2 : w.heap.size ≤ b4) (h3 : w.heap.size ≤ b3) (CR : Chg (fun q => q = b4) wd W) (hR : W.heap[b4]? = some (.cells #[.int .i64 (6), .complex .f32 0 0, .complex .f32 0 0, .float .f32 0, .slice none 0 0, .int .i64 (0), .int .i64 (0), .slice a6 xs.length c6, .slice a7 xs.length c7, .int .i64 (ct), .int .i64 (0)] 38 (0, 0))) : SlRel w a len cap xs zs smp a1 c1 a2 c2 b3 b4 ax n cx W a6 c6 a7 c7 ct :=
  ⟨hid (HY.out.chg CR (fun q hq (e : q = b4) => by omega)), hid (HO.out.chgN CR (fun q hq (e : q = b4) => by cases e; exact apTC HO.out R4.out (by decide) hq)), hid (OwnR.chgN HV.out CR (fun q hq (e : q = b4) => by cases e; exact apT HV.out R4.out (by decide) hq)), hid (CR.heap R3.out h1), hid (HO8.out.chgN CR (fun q hq (e : q = b4) => by cases e; exact apTC HO8.out R4.out (by decide) hq)), hid (OwnR.chgN HV8.out CR (fun q hq (e : q = b4) => by cases e; exact apT HV8.out R4.out (by decide) hq)), hid hR, hid (HX.out.chgN CR (fun q hq (e : q = b4) => by cases e; exact apTC HX.out R4.out (by decide) hq)), hid (HG.out.trans CR (fun q hq (e : q = b4) => by omega))⟩

set_option maxRecDepth 100000 in
set_option maxHeartbeats 8000000 in
theorem walkFnSliced (w : World) (a : Option Addr) (len cap : Nat) (h0 : Bytes0 w w.heap.size a len cap) :
    Calls Try.prog 18 #[.slice a len cap] w (LawPost w) := by
  by_cases hbig : len ≤ 1048576
  · have HY := hid (show Bytes w w.heap.size a len cap from ⟨h0.1, hbig, h0.2.2⟩)
    clear h0
    have hb1 : ¬ (1048576 : Int) < (len : Int) := by omega
    go_enter Try.func18, Try.ntmps18
    go_wp2_with fail
    refine (MakeTable_calls _ _ _ _ HY.out).mono ?_
    rintro e w1 ⟨a1, c1, a2, c2, xs, zs, rfl, hT, hL, hO, hV, hG⟩
    have n64 := hT.len
    have HT := hid hT
    have HL := hid hL
    have HO := hid (hO.mono (Nat.zero_le _))
    have HV := hid (OwnR.mono hV (Nat.zero_le _))
    have HG := hid hG
    replace HY := hid (HY.out.chg hG (fun _ _ h => h))
    have z1 := hG.size
    clear hT hL hO hV hG
    have A1 := (Chg.refl (fun _ => False) w1).alloc (.cells #[.slice a1 xs.length c1, .slice a2 xs.length c2] 36)
    have R3 := hid (heap_new w1 (.cells #[.slice a1 xs.length c1, .slice a2 xs.length c2] 36))
    replace HO := hid (HO.out.chg A1 fun _ _ _ h => h)
    replace HV := hid (OwnR.chg HV.out A1 fun _ _ _ h => h)
    replace HY := hid (HY.out.chg A1 (fun _ _ h => h))
    replace HG := hid (HG.out.trans A1 fun _ _ h => h)
    have lb3 : w1.heap.size < (w1.alloc (.cells #[.slice a1 xs.length c1, .slice a2 xs.length c2] 36)).heap.size := by simp
    clear A1
    go_upto_region 4 with fail
    generalize w1.alloc (.cells #[.slice a1 xs.length c1, .slice a2 xs.length c2] 36) = w2 at *
    generalize w1.heap.size = b3 at *
    have kR3 := cells_at R3.out
    go_wp2_with fail
    refine (NewSlicer_calls _ _ _ xs zs HO.out HV.out HT.out HL.out).mono ?_
    rintro e w3 ⟨a4, c4, a5, c5, rfl, hO, hV, hG⟩
    have HO4 := hid (hO.mono (Nat.zero_le _))
    rw [HL.out] at hV ⊢
    have HV4 := hid (OwnR.mono hV (Nat.zero_le _))
    replace HO := hid (HO.out.chg hG fun _ _ _ h => h)
    replace HV := hid (OwnR.chg HV.out hG fun _ _ _ h => h)
    replace HY := hid (HY.out.chg hG (fun _ _ h => h))
    replace HG := hid (HG.out.trans hG fun _ _ h => h)
    replace R3 := hid (hG.heap R3.out (fun h => h))
    have z3 := hG.size
    clear hO hV hG kR3
    have A1 := (Chg.refl (fun _ => False) w3).alloc (.cells #[.int .i64 (6), .complex .f32 0 0, .complex .f32 0 0, .float .f32 0, .slice none 0 0, .int .i64 (0), .int .i64 (0), .slice a4 xs.length c4, .slice a5 xs.length c5, .int .i64 (0), .int .i64 (0)] 38)
    have R4 := hid (heap_new w3 (.cells #[.int .i64 (6), .complex .f32 0 0, .complex .f32 0 0, .float .f32 0, .slice none 0 0, .int .i64 (0), .int .i64 (0), .slice a4 xs.length c4, .slice a5 xs.length c5, .int .i64 (0), .int .i64 (0)] 38))
    replace HO := hid (HO.out.chg A1 fun _ _ _ h => h)
    replace HV := hid (OwnR.chg HV.out A1 fun _ _ _ h => h)
    replace HY := hid (HY.out.chg A1 (fun _ _ h => h))
    replace HG := hid (HG.out.trans A1 fun _ _ h => h)
    replace R3 := hid (A1.heap R3.out (fun h => h))
    replace HO4 := hid (HO4.out.chg A1 fun _ _ _ h => h)
    replace HV4 := hid (OwnR.chg HV4.out A1 fun _ _ _ h => h)
    have lb4 : w3.heap.size < (w3.alloc (.cells #[.int .i64 (6), .complex .f32 0 0, .complex .f32 0 0, .float .f32 0, .slice none 0 0, .int .i64 (0), .int .i64 (0), .slice a4 xs.length c4, .slice a5 xs.length c5, .int .i64 (0), .int .i64 (0)] 38)).heap.size := by simp
    clear A1
    go_upto_region 5 with fail
    generalize w3.alloc (.cells #[.int .i64 (6), .complex .f32 0 0, .complex .f32 0 0, .float .f32 0, .slice none 0 0, .int .i64 (0), .int .i64 (0), .slice a4 xs.length c4, .slice a5 xs.length c5, .int .i64 (0), .int .i64 (0)] 38) = w4 at *
    generalize w3.heap.size = b4 at *
    go_wp2_with fail
    refine (fresh_calls _ _ _ _ (by obtain ⟨h1, h2, h3⟩ := HY.out; exact ⟨h1, h2, fun k hk => by obtain ⟨b, off, z, h4, h5, h6⟩ := h3 k hk; exact ⟨b, off, z, h4, by have := HG.out.size; omega, h6⟩⟩) 3 (by omega)).mono ?_
    rintro e w5 ⟨af, lf, cf, hlf, rfl, hB, hG⟩
    have HB := hid hB
    replace HO := hid (HO.out.chg hG fun _ _ _ h => h)
    replace HV := hid (OwnR.chg HV.out hG fun _ _ _ h => h)
    replace HY := hid (HY.out.chg hG (fun _ _ h => h))
    replace HG := hid (HG.out.trans hG fun _ _ h => h)
    replace R3 := hid (hG.heap R3.out (fun h => h))
    replace HO4 := hid (HO4.out.chg hG fun _ _ _ h => h)
    replace HV4 := hid (OwnR.chg HV4.out hG fun _ _ _ h => h)
    replace R4 := hid (hG.heap R4.out (fun h => h))
    have z5 := hG.size
    clear hB hG
    go_wp2_with fail
    refine (MakeSamples_calls _ _ _ _ HB.out 12 (by omega) (by omega)).mono ?_
    rintro e w6 ⟨ax, cx, smp, hls, rfl, hX, hG⟩
    have HX := hid (hX.mono (Nat.zero_le _))
    replace HO := hid (HO.out.chg hG fun _ _ _ h => h)
    replace HV := hid (OwnR.chg HV.out hG fun _ _ _ h => h)
    replace HY := hid (HY.out.chg hG (fun _ _ h => h))
    replace HG := hid (HG.out.trans hG fun _ _ h => h)
    replace R3 := hid (hG.heap R3.out (fun h => h))
    replace HO4 := hid (HO4.out.chg hG fun _ _ _ h => h)
    replace HV4 := hid (OwnR.chg HV4.out hG fun _ _ _ h => h)
    replace R4 := hid (hG.heap R4.out (fun h => h))
    have z6 := hG.size
    clear hX hG HB hlf
    obtain ⟨n, hn⟩ : ∃ n, smp.length = n := ⟨_, rfl⟩
    have HN := hid hn
    rw [hn] at hls HX ⊢
    clear hn
    go_wp2_with fail
    go_loopw [38] (fun i wr => ∃ (k : Nat) (a6 : Option Addr) (c6 : Nat) (a7 : Option Addr) (c7 : Nat) (ct : Int), k ≤ n ∧ i = .int .i64 (k : Int) ∧ SlRel w a len cap xs zs smp a1 c1 a2 c2 b3 b4 ax n cx wr a6 c6 a7 c7 ct) (fun i _ => n - (intOf i).toNat)
    case atStart => exact ⟨0, a4, c4, a5, c5, 0, Nat.zero_le _, rfl, HY, HO, HV, R3, HO4, HV4, R4, HX, HG⟩
    case round =>
      clear HY HO HV R3 HO4 HV4 R4 HX HG
      obtain ⟨k, a4, c4, a5, c5, ct, hk, rfl, HY, HO, HV, R3, HO4, HV4, R4, HX, HG⟩ := hrel
      obtain ⟨w7, rfl⟩ : ∃ w7 : World, w7 = wr := ⟨_, rfl⟩
      by_cases hlt : k < n
      · have hlt' : (k : Int) < (n : Int) := by omega
        obtain ⟨g, cc, cur, hva, hga, hgb, hgd, hgha, hcl⟩ := HX.out.at2 (n := n) HN.out (by omega)
        simp at hva
        obtain ⟨rfl, rfl⟩ := hva
        have x0 : w7.cell? ⟨g, k, none⟩ = some (.complex .f32 (smp.getD k (0, 0)).1 (smp.getD k (0, 0)).2) := by rw [cell_at hgha, hcl k hlt]; rfl
        clear hcl hgha
        generalize smp.getD k (0, 0) = z at *
        obtain ⟨z1', z2'⟩ := z
        have kR4 := cells_at R4.out
        go_wp2_with fail
        refine (StepModule_slicer _ _ _ xs zs ct z1' z2' HO4.out HV4.out HT.out HL.out).mono ?_
        rintro e w8 ⟨a8, c8, a9, c9, rfl, hO, hV, hG⟩
        have HO8 := hid (hO.mono (Nat.zero_le _))
        rw [HL.out] at hV ⊢
        have HV8 := hid (OwnR.mono hV (Nat.zero_le _))
        replace HO := hid (HO.out.chg hG fun _ _ _ h => h)
        replace HV := hid (OwnR.chg HV.out hG fun _ _ _ h => h)
        replace HY := hid (HY.out.chg hG (fun _ _ h => h))
        replace HG := hid (HG.out.trans hG fun _ _ h => h)
        replace R3 := hid (hG.heap R3.out (fun h => h))
        replace R4 := hid (hG.heap R4.out (fun h => h))
        replace HX := hid (HX.out.chg hG fun _ _ _ h => h)
        replace HO4 := hid (HO4.out.chg hG fun _ _ _ h => h)
        replace HV4 := hid (OwnR.chg HV4.out hG fun _ _ _ h => h)
        have z8 := hG.size
        clear hO hV hG kR4 x0
        obtain ⟨y1, y2, hy⟩ : ∃ y1 y2, slY xs (z1', z2') = (y1, y2) := ⟨_, _, rfl⟩
        obtain ⟨C, hC⟩ : ∃ C, slC xs zs (z1', z2') = C := ⟨_, rfl⟩
        rw [hy, hC]
        have EY := hid hy
        have EC := hid hC
        clear hy hC
        have A1 := (Chg.refl (fun _ => False) w8).alloc (.cells #[.int .i64 (6), .complex .f32 0 0, .complex .f32 0 0, .float .f32 0, .slice none 0 0, .int .i64 (0), .int .i64 (0), .slice a8 xs.length c8, .slice a9 xs.length c9, .int .i64 (C), .int .i64 (0)] 38)
        have R8 := hid (heap_new w8 (.cells #[.int .i64 (6), .complex .f32 0 0, .complex .f32 0 0, .float .f32 0, .slice none 0 0, .int .i64 (0), .int .i64 (0), .slice a8 xs.length c8, .slice a9 xs.length c9, .int .i64 (C), .int .i64 (0)] 38))
        replace HO := hid (HO.out.chg A1 fun _ _ _ h => h)
        replace HV := hid (OwnR.chg HV.out A1 fun _ _ _ h => h)
        replace HY := hid (HY.out.chg A1 (fun _ _ h => h))
        replace HG := hid (HG.out.trans A1 fun _ _ h => h)
        replace R3 := hid (A1.heap R3.out (fun h => h))
        replace R4 := hid (A1.heap R4.out (fun h => h))
        replace HX := hid (HX.out.chg A1 fun _ _ _ h => h)
        replace HO4 := hid (HO4.out.chg A1 fun _ _ _ h => h)
        replace HV4 := hid (OwnR.chg HV4.out A1 fun _ _ _ h => h)
        replace HO8 := hid (HO8.out.chg A1 fun _ _ _ h => h)
        replace HV8 := hid (OwnR.chg HV8.out A1 fun _ _ _ h => h)
        have lb8 : w8.heap.size < (w8.alloc (.cells #[.int .i64 (6), .complex .f32 0 0, .complex .f32 0 0, .float .f32 0, .slice none 0 0, .int .i64 (0), .int .i64 (0), .slice a8 xs.length c8, .slice a9 xs.length c9, .int .i64 (C), .int .i64 (0)] 38)).heap.size := by simp
        clear A1
        go_upto_region 11 with fail
        generalize w8.alloc (.cells #[.int .i64 (6), .complex .f32 0 0, .complex .f32 0 0, .float .f32 0, .slice none 0 0, .int .i64 (0), .int .i64 (0), .slice a8 xs.length c8, .slice a9 xs.length c9, .int .i64 (C), .int .i64 (0)] 38) = w9 at *
        generalize w8.heap.size = b8 at *
        have kR3 := cells_at R3.out
        go_wp2_with fail
        refine (NearestPointS_calls _ _ _ xs zs z1' z2' HO.out HV.out HT.out HL.out).mono ?_
        rintro e w10 ⟨hN, hG⟩
        replace HO := hid (HO.out.chg hG fun _ _ _ h => h)
        replace HV := hid (OwnR.chg HV.out hG fun _ _ _ h => h)
        replace HY := hid (HY.out.chg hG (fun _ _ h => h))
        replace HG := hid (HG.out.trans hG fun _ _ h => h)
        replace R3 := hid (hG.heap R3.out (fun h => h))
        replace R4 := hid (hG.heap R4.out (fun h => h))
        replace HX := hid (HX.out.chg hG fun _ _ _ h => h)
        replace HO4 := hid (HO4.out.chg hG fun _ _ _ h => h)
        replace HV4 := hid (OwnR.chg HV4.out hG fun _ _ _ h => h)
        replace HO8 := hid (HO8.out.chg hG fun _ _ _ h => h)
        replace HV8 := hid (OwnR.chg HV8.out hG fun _ _ _ h => h)
        replace R8 := hid (hG.heap R8.out (fun h => h))
        have z10 := hG.size
        clear hG kR3
        rcases hN with ⟨h0, rfl⟩ | ⟨hm, rfl⟩
        · have kp : ∃ p : Nat, nrI xs (z1', z2') = (p : Int) := Int.eq_ofNat_of_zero_le h0
          obtain ⟨p, hp⟩ := kp
          have hR := nrI_range xs (z1', z2')
          have ey : xs.getD p (0, 0) = (y1, y2) := by rw [← EY.out]; unfold slY; rw [hp, if_pos (by omega)]; rfl
          have ec : zs.getD p 0 = C := by rw [← EC.out]; unfold slC; rw [hp, if_pos (by omega)]; rfl
          rw [hp] at hR ⊢
          have plt : p < xs.length := by omega
          have plt' : (p : Int) < (xs.length : Int) := by omega
          clear h0 hp hR EY EC
          obtain ⟨g3, cc3, cur3, hva3, hga3, hgb3, hgd3, hgh3, hcl3⟩ := HO.out.at2 (n := xs.length) rfl (by omega)
          simp at hva3
          obtain ⟨rfl, rfl⟩ := hva3
          have XP : w10.cell? ⟨g3, p, none⟩ = some (.complex .f32 y1 y2) := by rw [cell_at hgh3, hcl3 p plt, ey]; rfl
          obtain ⟨gz, cz, curz, hv2, hg0, hg1, hgc, hgz, zc, hz, hcz⟩ := OwnN.int HV.out HL.out plt
          simp at hv2
          obtain ⟨rfl, rfl⟩ := hv2
          have ezc : zc = C := by rw [← ec, List.getD_eq_getElem?_getD, hz]; rfl
          subst ezc
          have XL : w10.cell? ⟨gz, p, none⟩ = some (.int .i64 zc) := hcz
          have X0 : w10.cell? ⟨b3, 0, none⟩ = some (.slice (some ⟨g3, 0, none⟩) xs.length c1) := cell_at R3.out
          have X1 : w10.cell? ⟨b3, 1, none⟩ = some (.slice (some ⟨gz, 0, none⟩) xs.length c2) := cell_at R3.out
          have X9 : w10.cell? ⟨b8, 9, none⟩ = some (.int .i64 zc) := cell_at R8.out
          clear hcl3 hgh3 hz hgz hcz ey ec hga3 hgb3 hgd3 hg0 hg1 hgc
          go_upto_region 12 with fail
          refine wp_region_held_drew (S := fun wx => Chg (fun _ => False) w10 wx) (by kernel_rfl) ((Chg.refl _ w10).drew) (fun hH => ?_)
          have zd : w10.heap.size ≤ w10.drew.heap.size := Nat.le_refl _
          generalize w10.drew = wd at *
          refine wpAnyH_take (i := 0) (v := ?_) (oi := { dst := some 55, op := Op.move (Operand.tmp 10), type := _, pos := _, after := _, guard := none }) rfl (by kernel_rfl) (by kernel_rfl) (by kernel_rfl) (fun _ _ _ h => h) (Or.inl ⟨by kernel_rfl, ?_⟩) (by assumption) ?_
          rotate_left
          · (intro wx hSw; (try dsimp only at hSw); go_simp) <;> with_reducible rfl
          try simp only [Act.put, List.setIfInBounds_toArray, List.set_cons_zero, List.set_cons_succ]
          refine wpAnyH_take (i := 1) (v := ?_) (oi := { dst := some 56, op := Op.unOp UnOp.not 4 (Operand.tmp 55), type := _, pos := _, after := _, guard := none }) rfl (by kernel_rfl) (by kernel_rfl) (by kernel_rfl) (fun _ _ _ h => h) (Or.inl ⟨by kernel_rfl, ?_⟩) (by assumption) ?_
          rotate_left
          · (intro wx hSw; (try dsimp only at hSw); go_simp) <;> with_reducible rfl
          try simp only [Act.put, List.setIfInBounds_toArray, List.set_cons_zero, List.set_cons_succ]
          refine wpAnyH_take (i := 2) (v := ?_) (oi := { dst := some 57, op := Op.move (Operand.tmp 56), type := _, pos := _, after := _, guard := none }) rfl (by kernel_rfl) (by kernel_rfl) (by kernel_rfl) (fun _ _ _ h => h) (Or.inl ⟨by kernel_rfl, ?_⟩) (by assumption) ?_
          rotate_left
          · (intro wx hSw; (try dsimp only at hSw); go_simp) <;> with_reducible rfl
          try simp only [Act.put, List.setIfInBounds_toArray, List.set_cons_zero, List.set_cons_succ]
          refine wpAnyH_take (i := 3) (v := ?_) (oi := { dst := some 58, op := Op.move (Operand.tmp 12), type := _, pos := _, after := _, guard := some (2, false) }) rfl (by kernel_rfl) (by kernel_rfl) (by kernel_rfl) (fun _ _ _ h => h) (Or.inl ⟨by kernel_rfl, ?_⟩) (by assumption) ?_
          rotate_left
          · (intro wx hSw; (try dsimp only at hSw); go_simp) <;> with_reducible rfl
          try simp only [Act.put, List.setIfInBounds_toArray, List.set_cons_zero, List.set_cons_succ]
          refine wpAnyH_take (i := 4) (v := ?_) (oi := { dst := some 59, op := Op.move (Operand.tmp 58), type := _, pos := _, after := _, guard := some (2, false) }) rfl (by kernel_rfl) (by kernel_rfl) (by kernel_rfl) (fun _ _ _ h => h) (Or.inl ⟨by kernel_rfl, ?_⟩) (by assumption) ?_
          rotate_left
          · (intro wx hSw; (try dsimp only at hSw); go_simp) <;> with_reducible rfl
          try simp only [Act.put, List.setIfInBounds_toArray, List.set_cons_zero, List.set_cons_succ]
          refine wpAnyH_take (i := 5) (v := ?_) (oi := { dst := some 60, op := Op.move (Operand.tmp 9), type := _, pos := _, after := _, guard := some (4, true) }) rfl (by kernel_rfl) (by kernel_rfl) (by kernel_rfl) (fun _ _ _ h => h) (Or.inl ⟨by kernel_rfl, ?_⟩) (by assumption) ?_
          rotate_left
          · (intro wx hSw; (try dsimp only at hSw); go_simp) <;> with_reducible rfl
          try simp only [Act.put, List.setIfInBounds_toArray, List.set_cons_zero, List.set_cons_succ]
          refine wpAnyH_take (i := 7) (v := ?_) (oi := { dst := some 62, op := Op.fieldAddr 36 (Operand.tmp 3) 0, type := _, pos := _, after := _, guard := some (4, true) }) rfl (by kernel_rfl) (by kernel_rfl) (by kernel_rfl) (fun _ _ _ h => h) (Or.inl ⟨by kernel_rfl, ?_⟩) (by assumption) ?_
          rotate_left
          · (intro wx hSw; (try dsimp only at hSw); go_simp) <;> with_reducible rfl
          try simp only [Act.put, List.setIfInBounds_toArray, List.set_cons_zero, List.set_cons_succ]
          refine wpAnyH_take (i := 8) (v := ?_) (oi := { dst := some 63, op := Op.load 25 (Operand.tmp 62), type := _, pos := _, after := _, guard := some (4, true) }) rfl (by kernel_rfl) (by kernel_rfl) (by kernel_rfl) (fun _ _ _ h => h) (Or.inl ⟨by kernel_rfl, ?_⟩) (by assumption) ?_
          rotate_left
          · (intro wx hSw; (try dsimp only at hSw); have y0 := hSw.cell X0 (fun h => h); go_simp) <;> with_reducible rfl
          try simp only [Act.put, List.setIfInBounds_toArray, List.set_cons_zero, List.set_cons_succ]
          refine wpAnyH_take (i := 9) (v := ?_) (oi := { dst := some 64, op := Op.move (Operand.tmp 11), type := _, pos := _, after := _, guard := some (4, true) }) rfl (by kernel_rfl) (by kernel_rfl) (by kernel_rfl) (fun _ _ _ h => h) (Or.inl ⟨by kernel_rfl, ?_⟩) (by assumption) ?_
          rotate_left
          · (intro wx hSw; (try dsimp only at hSw); go_simp) <;> with_reducible rfl
          try simp only [Act.put, List.setIfInBounds_toArray, List.set_cons_zero, List.set_cons_succ]
          refine wpAnyH_take (i := 10) (v := ?_) (oi := { dst := some 65, op := Op.indexAddr 25 (Operand.tmp 63) (Operand.tmp 64), type := _, pos := _, after := _, guard := some (4, true) }) rfl (by kernel_rfl) (by kernel_rfl) (by kernel_rfl) (fun _ _ _ h => h) (Or.inl ⟨by kernel_rfl, ?_⟩) (by assumption) ?_
          rotate_left
          · (intro wx hSw; (try dsimp only at hSw); go_simp) <;> with_reducible rfl
          try simp only [Act.put, List.setIfInBounds_toArray, List.set_cons_zero, List.set_cons_succ]
          refine wpAnyH_take (i := 11) (v := ?_) (oi := { dst := some 66, op := Op.load 33 (Operand.tmp 65), type := _, pos := _, after := _, guard := some (4, true) }) rfl (by kernel_rfl) (by kernel_rfl) (by kernel_rfl) (fun _ _ _ h => h) (Or.inl ⟨by kernel_rfl, ?_⟩) (by assumption) ?_
          rotate_left
          · (intro wx hSw; (try dsimp only at hSw); have y0 := hSw.cell XP (fun h => h); go_simp) <;> with_reducible rfl
          try simp only [Act.put, List.setIfInBounds_toArray, List.set_cons_zero, List.set_cons_succ]
          refine wpAnyH_ready (rs := [6, 12]) (by kernel_rfl) (by simp) ?_
          refine (AllReadyH.cons rfl (fun K hK => ?_) (AllReadyH.cons rfl (fun K hK => ?_) AllReadyH.nil))
          · go_simp
            refine hK.out _ _ (hH.alloc _) (fun hHa => ?_)
            clear hK K
            try simp only [Act.put, List.setIfInBounds_toArray, List.set_cons_zero, List.set_cons_succ]
            have U6 := hid (OwnC.lit wd [(y1, y2)] 33 rfl (by simp) (Nat.zero_le _) #[.complex .f32 y1 y2] rfl)
            generalize wd.alloc (.cells #[.complex .f32 y1 y2] 33) = wda at *
            generalize wd.heap.size = ba at *
            refine wpAnyH_ready (rs := [12]) (by kernel_rfl) (by simp) ?_
            refine (AllReadyH.cons rfl (fun K hK => ?_) AllReadyH.nil)
            go_simp
            refine hK.out _ _ (hHa.alloc _) (fun hHaa => ?_)
            clear hK K
            try simp only [Act.put, List.setIfInBounds_toArray, List.set_cons_zero, List.set_cons_succ]
            have U12 := hid (OwnC.lit wda [(y1, y2)] 33 rfl (by simp) (Nat.zero_le _) #[.complex .f32 y1 y2] rfl)
            replace U6 := hid (U6.out.chg ((Chg.refl (fun _ => False) wda).alloc (.cells #[.complex .f32 y1 y2] 33)) fun _ _ _ h => h)
            generalize wda.alloc (.cells #[.complex .f32 y1 y2] 33) = wdab at *
            generalize wda.heap.size = bb at *
            refine wpAnyH_ready (rs := [13]) (by kernel_rfl) (by simp) ?_
            refine (AllReadyH.cons rfl (fun K hK => ?_) AllReadyH.nil)
            go_simp
            refine (MakeSame_refl _ _ _ [(y1, y2)] (by simp) U6.out U12.out).mono ?_
            rintro e w9x ⟨rfl, m9, rfl⟩
            go_wp2_with fail
            refine hK.out _ _ (hHaa.drewN m9) (fun hH9 => ?_)
            clear hK K U6 U12
            try simp only [Act.put, List.setIfInBounds_toArray, List.set_cons_zero, List.set_cons_succ]
            generalize wdab.drewN m9 = we at *
            refine wpAnyH_take (i := 14) (v := ?_) (oi := { dst := some 69, op := Op.unOp UnOp.not 4 (Operand.tmp 68), type := _, pos := _, after := _, guard := some (4, true) }) rfl (by kernel_rfl) (by kernel_rfl) (by kernel_rfl) (fun _ _ _ h => h) (Or.inl ⟨by kernel_rfl, ?_⟩) (by assumption) ?_
            rotate_left
            · (intro wx hSw; (try dsimp only at hSw); go_simp) <;> with_reducible rfl
            try simp only [Act.put, List.setIfInBounds_toArray, List.set_cons_zero, List.set_cons_succ]
            refine wpAnyH_take (i := 15) (v := ?_) (oi := { dst := some 70, op := Op.move (Operand.tmp 69), type := _, pos := _, after := _, guard := some (4, true) }) rfl (by kernel_rfl) (by kernel_rfl) (by kernel_rfl) (fun _ _ _ h => h) (Or.inl ⟨by kernel_rfl, ?_⟩) (by assumption) ?_
            rotate_left
            · (intro wx hSw; (try dsimp only at hSw); go_simp) <;> with_reducible rfl
            try simp only [Act.put, List.setIfInBounds_toArray, List.set_cons_zero, List.set_cons_succ]
            refine wpAnyH_take (i := 16) (v := ?_) (oi := { dst := some 71, op := Op.fieldAddr 38 (Operand.tmp 8) 6, type := _, pos := _, after := _, guard := some (15, false) }) rfl (by kernel_rfl) (by kernel_rfl) (by kernel_rfl) (fun _ _ _ h => h) (Or.inl ⟨by kernel_rfl, ?_⟩) (by assumption) ?_
            rotate_left
            · (intro wx hSw; (try dsimp only at hSw); go_simp) <;> with_reducible rfl
            try simp only [Act.put, List.setIfInBounds_toArray, List.set_cons_zero, List.set_cons_succ]
            refine wpAnyH_take (i := 17) (v := ?_) (oi := { dst := some 72, op := Op.load 3 (Operand.tmp 71), type := _, pos := _, after := _, guard := some (15, false) }) rfl (by kernel_rfl) (by kernel_rfl) (by kernel_rfl) (fun _ _ _ h => h) (Or.inl ⟨by kernel_rfl, ?_⟩) (by assumption) ?_
            rotate_left
            · (intro wx hSw; (try dsimp only at hSw); have y0 := hSw.cell X9 (fun h => h); go_simp) <;> with_reducible rfl
            try simp only [Act.put, List.setIfInBounds_toArray, List.set_cons_zero, List.set_cons_succ]
            refine wpAnyH_take (i := 18) (v := ?_) (oi := { dst := some 73, op := Op.fieldAddr 36 (Operand.tmp 3) 1, type := _, pos := _, after := _, guard := some (15, false) }) rfl (by kernel_rfl) (by kernel_rfl) (by kernel_rfl) (fun _ _ _ h => h) (Or.inl ⟨by kernel_rfl, ?_⟩) (by assumption) ?_
            rotate_left
            · (intro wx hSw; (try dsimp only at hSw); go_simp) <;> with_reducible rfl
            try simp only [Act.put, List.setIfInBounds_toArray, List.set_cons_zero, List.set_cons_succ]
            refine wpAnyH_take (i := 19) (v := ?_) (oi := { dst := some 74, op := Op.load 34 (Operand.tmp 73), type := _, pos := _, after := _, guard := some (15, false) }) rfl (by kernel_rfl) (by kernel_rfl) (by kernel_rfl) (fun _ _ _ h => h) (Or.inl ⟨by kernel_rfl, ?_⟩) (by assumption) ?_
            rotate_left
            · (intro wx hSw; (try dsimp only at hSw); have y0 := hSw.cell X1 (fun h => h); go_simp) <;> with_reducible rfl
            try simp only [Act.put, List.setIfInBounds_toArray, List.set_cons_zero, List.set_cons_succ]
            refine wpAnyH_take (i := 20) (v := ?_) (oi := { dst := some 75, op := Op.move (Operand.tmp 11), type := _, pos := _, after := _, guard := some (15, false) }) rfl (by kernel_rfl) (by kernel_rfl) (by kernel_rfl) (fun _ _ _ h => h) (Or.inl ⟨by kernel_rfl, ?_⟩) (by assumption) ?_
            rotate_left
            · (intro wx hSw; (try dsimp only at hSw); go_simp) <;> with_reducible rfl
            try simp only [Act.put, List.setIfInBounds_toArray, List.set_cons_zero, List.set_cons_succ]
            refine wpAnyH_take (i := 21) (v := ?_) (oi := { dst := some 76, op := Op.indexAddr 34 (Operand.tmp 74) (Operand.tmp 75), type := _, pos := _, after := _, guard := some (15, false) }) rfl (by kernel_rfl) (by kernel_rfl) (by kernel_rfl) (fun _ _ _ h => h) (Or.inl ⟨by kernel_rfl, ?_⟩) (by assumption) ?_
            rotate_left
            · (intro wx hSw; (try dsimp only at hSw); go_simp) <;> with_reducible rfl
            try simp only [Act.put, List.setIfInBounds_toArray, List.set_cons_zero, List.set_cons_succ]
            refine wpAnyH_take (i := 22) (v := ?_) (oi := { dst := some 77, op := Op.load 3 (Operand.tmp 76), type := _, pos := _, after := _, guard := some (15, false) }) rfl (by kernel_rfl) (by kernel_rfl) (by kernel_rfl) (fun _ _ _ h => h) (Or.inl ⟨by kernel_rfl, ?_⟩) (by assumption) ?_
            rotate_left
            · (intro wx hSw; (try dsimp only at hSw); have y0 := hSw.cell XL (fun h => h); go_simp) <;> with_reducible rfl
            try simp only [Act.put, List.setIfInBounds_toArray, List.set_cons_zero, List.set_cons_succ]
            refine wpAnyH_take (i := 23) (v := ?_) (oi := { dst := some 78, op := Op.binOp BinOp.neq 3 (Operand.tmp 72) (Operand.tmp 77) 3, type := _, pos := _, after := _, guard := some (15, false) }) rfl (by kernel_rfl) (by kernel_rfl) (by kernel_rfl) (fun _ _ _ h => h) (Or.inl ⟨by kernel_rfl, ?_⟩) (by assumption) ?_
            rotate_left
            · (intro wx hSw; (try dsimp only at hSw); go_simp) <;> with_reducible rfl
            try simp only [Act.put, List.setIfInBounds_toArray, List.set_cons_zero, List.set_cons_succ]
            refine wpAnyH_take (i := 24) (v := ?_) (oi := { dst := some 79, op := Op.pick (Operand.tmp 70) (Operand.const (Value.bool true)) (Operand.tmp 78), type := _, pos := _, after := _, guard := some (4, true) }) rfl (by kernel_rfl) (by kernel_rfl) (by kernel_rfl) (fun _ _ _ h => h) (Or.inl ⟨by kernel_rfl, ?_⟩) (by assumption) ?_
            rotate_left
            · (intro wx hSw; (try dsimp only at hSw); go_simp) <;> with_reducible rfl
            try simp only [Act.put, List.setIfInBounds_toArray, List.set_cons_zero, List.set_cons_succ]
            refine wpAnyH_take (i := 25) (v := ?_) (oi := { dst := some 80, op := Op.pick (Operand.tmp 59) (Operand.tmp 79) (Operand.const (Value.bool false)), type := _, pos := _, after := _, guard := some (2, false) }) rfl (by kernel_rfl) (by kernel_rfl) (by kernel_rfl) (fun _ _ _ h => h) (Or.inl ⟨by kernel_rfl, ?_⟩) (by assumption) ?_
            rotate_left
            · (intro wx hSw; (try dsimp only at hSw); go_simp) <;> with_reducible rfl
            try simp only [Act.put, List.setIfInBounds_toArray, List.set_cons_zero, List.set_cons_succ]
            refine wpAnyH_take (i := 26) (v := ?_) (oi := { dst := some 81, op := Op.pick (Operand.tmp 57) (Operand.const (Value.bool true)) (Operand.tmp 80), type := _, pos := _, after := _, guard := none }) rfl (by kernel_rfl) (by kernel_rfl) (by kernel_rfl) (fun _ _ _ h => h) (Or.inl ⟨by kernel_rfl, ?_⟩) (by assumption) ?_
            rotate_left
            · (intro wx hSw; (try dsimp only at hSw); go_simp) <;> with_reducible rfl
            try simp only [Act.put, List.setIfInBounds_toArray, List.set_cons_zero, List.set_cons_succ]
            refine wpAnyH_take (i := 27) (v := ?_) (oi := { dst := some 82, op := Op.move (Operand.tmp 81), type := _, pos := _, after := _, guard := none }) rfl (by kernel_rfl) (by kernel_rfl) (by kernel_rfl) (fun _ _ _ h => h) (Or.inl ⟨by kernel_rfl, ?_⟩) (by assumption) ?_
            rotate_left
            · (intro wx hSw; (try dsimp only at hSw); go_simp) <;> with_reducible rfl
            try simp only [Act.put, List.setIfInBounds_toArray, List.set_cons_zero, List.set_cons_succ]
            refine wpAnyH_take (i := 28) (v := ?_) (oi := { dst := some 83, op := Op.move (Operand.tmp 12), type := _, pos := _, after := _, guard := some (27, false) }) rfl (by kernel_rfl) (by kernel_rfl) (by kernel_rfl) (fun _ _ _ h => h) (Or.inl ⟨by kernel_rfl, ?_⟩) (by assumption) ?_
            rotate_left
            · (intro wx hSw; (try dsimp only at hSw); go_simp) <;> with_reducible rfl
            try simp only [Act.put, List.setIfInBounds_toArray, List.set_cons_zero, List.set_cons_succ]
            refine wpAnyH_take (i := 29) (v := ?_) (oi := { dst := some 84, op := Op.unOp UnOp.not 4 (Operand.tmp 83), type := _, pos := _, after := _, guard := some (27, false) }) rfl (by kernel_rfl) (by kernel_rfl) (by kernel_rfl) (fun _ _ _ h => h) (Or.inl ⟨by kernel_rfl, ?_⟩) (by assumption) ?_
            rotate_left
            · (intro wx hSw; (try dsimp only at hSw); go_simp) <;> with_reducible rfl
            try simp only [Act.put, List.setIfInBounds_toArray, List.set_cons_zero, List.set_cons_succ]
            refine wpAnyH_take (i := 30) (v := ?_) (oi := { dst := some 85, op := Op.move (Operand.tmp 84), type := _, pos := _, after := _, guard := some (27, false) }) rfl (by kernel_rfl) (by kernel_rfl) (by kernel_rfl) (fun _ _ _ h => h) (Or.inl ⟨by kernel_rfl, ?_⟩) (by assumption) ?_
            rotate_left
            · (intro wx hSw; (try dsimp only at hSw); go_simp) <;> with_reducible rfl
            try simp only [Act.put, List.setIfInBounds_toArray, List.set_cons_zero, List.set_cons_succ]
            refine wpAnyH_take (i := 31) (v := undef) (oi := { dst := some 86, op := Op.move (Operand.tmp 9), type := _, pos := _, after := _, guard := some (30, true) }) rfl (by kernel_rfl) (by kernel_rfl) (by kernel_rfl) (fun _ _ _ h => h) (Or.inr ⟨by kernel_rfl, rfl⟩) (by assumption) ?_
            try simp only [Act.put, List.setIfInBounds_toArray, List.set_cons_zero, List.set_cons_succ]
            refine wpAnyH_take (i := 32) (v := undef) (oi := { dst := some 87, op := Op.binOp BinOp.neq 33 (Operand.tmp 86) (Operand.const (Value.complex FloatKind.f32 0 0)) 33, type := _, pos := _, after := _, guard := some (30, true) }) rfl (by kernel_rfl) (by kernel_rfl) (by kernel_rfl) (fun _ _ _ h => h) (Or.inr ⟨by kernel_rfl, rfl⟩) (by assumption) ?_
            try simp only [Act.put, List.setIfInBounds_toArray, List.set_cons_zero, List.set_cons_succ]
            refine wpAnyH_take (i := 33) (v := undef) (oi := { dst := some 88, op := Op.move (Operand.tmp 87), type := _, pos := _, after := _, guard := some (30, true) }) rfl (by kernel_rfl) (by kernel_rfl) (by kernel_rfl) (fun _ _ _ h => h) (Or.inr ⟨by kernel_rfl, rfl⟩) (by assumption) ?_
            try simp only [Act.put, List.setIfInBounds_toArray, List.set_cons_zero, List.set_cons_succ]
            refine wpAnyH_take (i := 34) (v := undef) (oi := { dst := some 89, op := Op.fieldAddr 38 (Operand.tmp 8) 6, type := _, pos := _, after := _, guard := some (33, false) }) rfl (by kernel_rfl) (by kernel_rfl) (by kernel_rfl) (fun _ _ _ h => h) (Or.inr ⟨by kernel_rfl, rfl⟩) (by assumption) ?_
            try simp only [Act.put, List.setIfInBounds_toArray, List.set_cons_zero, List.set_cons_succ]
            refine wpAnyH_take (i := 35) (v := undef) (oi := { dst := some 90, op := Op.load 3 (Operand.tmp 89), type := _, pos := _, after := _, guard := some (33, false) }) rfl (by kernel_rfl) (by kernel_rfl) (by kernel_rfl) (fun _ _ _ h => h) (Or.inr ⟨by kernel_rfl, rfl⟩) (by assumption) ?_
            try simp only [Act.put, List.setIfInBounds_toArray, List.set_cons_zero, List.set_cons_succ]
            refine wpAnyH_take (i := 36) (v := undef) (oi := { dst := some 91, op := Op.binOp BinOp.neq 3 (Operand.tmp 90) (Operand.const (Value.int IntKind.i64 (-1))) 3, type := _, pos := _, after := _, guard := some (33, false) }) rfl (by kernel_rfl) (by kernel_rfl) (by kernel_rfl) (fun _ _ _ h => h) (Or.inr ⟨by kernel_rfl, rfl⟩) (by assumption) ?_
            try simp only [Act.put, List.setIfInBounds_toArray, List.set_cons_zero, List.set_cons_succ]
            refine wpAnyH_take (i := 37) (v := undef) (oi := { dst := some 92, op := Op.pick (Operand.tmp 88) (Operand.const (Value.bool true)) (Operand.tmp 91), type := _, pos := _, after := _, guard := some (30, true) }) rfl (by kernel_rfl) (by kernel_rfl) (by kernel_rfl) (fun _ _ _ h => h) (Or.inr ⟨by kernel_rfl, rfl⟩) (by assumption) ?_
            try simp only [Act.put, List.setIfInBounds_toArray, List.set_cons_zero, List.set_cons_succ]
            refine wpAnyH_take (i := 38) (v := ?_) (oi := { dst := some 93, op := Op.pick (Operand.tmp 85) (Operand.tmp 92) (Operand.const (Value.bool false)), type := _, pos := _, after := _, guard := some (27, false) }) rfl (by kernel_rfl) (by kernel_rfl) (by kernel_rfl) (fun _ _ _ h => h) (Or.inl ⟨by kernel_rfl, ?_⟩) (by assumption) ?_
            rotate_left
            · (intro wx hSw; (try dsimp only at hSw); go_simp) <;> with_reducible rfl
            try simp only [Act.put, List.setIfInBounds_toArray, List.set_cons_zero, List.set_cons_succ]
            refine wpAnyH_take (i := 39) (v := ?_) (oi := { dst := some 94, op := Op.pick (Operand.tmp 82) (Operand.const (Value.bool true)) (Operand.tmp 93), type := _, pos := _, after := _, guard := none }) rfl (by kernel_rfl) (by kernel_rfl) (by kernel_rfl) (fun _ _ _ h => h) (Or.inl ⟨by kernel_rfl, ?_⟩) (by assumption) ?_
            rotate_left
            · (intro wx hSw; (try dsimp only at hSw); go_simp) <;> with_reducible rfl
            try simp only [Act.put, List.setIfInBounds_toArray, List.set_cons_zero, List.set_cons_succ]
            refine wpAnyH_done (by kernel_rfl) ?_ _
            have hG := hH9
            replace HO := hid (HO.out.chg hG fun _ _ _ h => h)
            replace HV := hid (OwnR.chg HV.out hG fun _ _ _ h => h)
            replace HY := hid (HY.out.chg hG (fun _ _ h => h))
            replace HG := hid (HG.out.trans hG fun _ _ h => h)
            replace R3 := hid (hG.heap R3.out (fun h => h))
            replace R4 := hid (hG.heap R4.out (fun h => h))
            replace HX := hid (HX.out.chg hG fun _ _ _ h => h)
            replace HO4 := hid (HO4.out.chg hG fun _ _ _ h => h)
            replace HV4 := hid (OwnR.chg HV4.out hG fun _ _ _ h => h)
            replace HO8 := hid (HO8.out.chg hG fun _ _ _ h => h)
            replace HV8 := hid (OwnR.chg HV8.out hG fun _ _ _ h => h)
            replace R8 := hid (hG.heap R8.out (fun h => h))
            have zq := hG.size
            clear hG
            have kR8 := cells_at R8.out
            have kR4 := cells_at R4.out
            have fR4 := frees_at R4.out
            clear X9 X0 X1 XP XL
            rename_i Kx hKx
            refine hKx _ _ ?_
            clear hKx
            go_wp2_with fail
            go_roundw
            case rel =>
              refine ⟨k + 1, a8, c8, a9, c9, zc, by omega, by go_num, ?_⟩
              refine SlRel.step HY HO HV R3 HO8 HV8 R4 HX HG (by omega) (by omega) (by omega) ?_ (heap_row11 R4.out _ _ _ _ _ _ _ _ _ _ _)
              repeat (first | (with_reducible exact Chg.refl _ _) | (with_reducible refine Chg.setCell ?_ ?_ _; rotate_left; exact .inl rfl))
            case measure => simp [intOf]; omega
          · go_simp
            refine hK.out _ _ (hH.alloc _) (fun hHa => ?_)
            clear hK K
            try simp only [Act.put, List.setIfInBounds_toArray, List.set_cons_zero, List.set_cons_succ]
            have U12 := hid (OwnC.lit wd [(y1, y2)] 33 rfl (by simp) (Nat.zero_le _) #[.complex .f32 y1 y2] rfl)
            generalize wd.alloc (.cells #[.complex .f32 y1 y2] 33) = wda at *
            generalize wd.heap.size = ba at *
            refine wpAnyH_ready (rs := [6]) (by kernel_rfl) (by simp) ?_
            refine (AllReadyH.cons rfl (fun K hK => ?_) AllReadyH.nil)
            go_simp
            refine hK.out _ _ (hHa.alloc _) (fun hHaa => ?_)
            clear hK K
            try simp only [Act.put, List.setIfInBounds_toArray, List.set_cons_zero, List.set_cons_succ]
            have U6 := hid (OwnC.lit wda [(y1, y2)] 33 rfl (by simp) (Nat.zero_le _) #[.complex .f32 y1 y2] rfl)
            replace U12 := hid (U12.out.chg ((Chg.refl (fun _ => False) wda).alloc (.cells #[.complex .f32 y1 y2] 33)) fun _ _ _ h => h)
            generalize wda.alloc (.cells #[.complex .f32 y1 y2] 33) = wdab at *
            generalize wda.heap.size = bb at *
            refine wpAnyH_ready (rs := [13]) (by kernel_rfl) (by simp) ?_
            refine (AllReadyH.cons rfl (fun K hK => ?_) AllReadyH.nil)
            go_simp
            refine (MakeSame_refl _ _ _ [(y1, y2)] (by simp) U6.out U12.out).mono ?_
            rintro e w9x ⟨rfl, m9, rfl⟩
            go_wp2_with fail
            refine hK.out _ _ (hHaa.drewN m9) (fun hH9 => ?_)
            clear hK K U6 U12
            try simp only [Act.put, List.setIfInBounds_toArray, List.set_cons_zero, List.set_cons_succ]
            generalize wdab.drewN m9 = we at *
            refine wpAnyH_take (i := 14) (v := ?_) (oi := { dst := some 69, op := Op.unOp UnOp.not 4 (Operand.tmp 68), type := _, pos := _, after := _, guard := some (4, true) }) rfl (by kernel_rfl) (by kernel_rfl) (by kernel_rfl) (fun _ _ _ h => h) (Or.inl ⟨by kernel_rfl, ?_⟩) (by assumption) ?_
            rotate_left
            · (intro wx hSw; (try dsimp only at hSw); go_simp) <;> with_reducible rfl
            try simp only [Act.put, List.setIfInBounds_toArray, List.set_cons_zero, List.set_cons_succ]
            refine wpAnyH_take (i := 15) (v := ?_) (oi := { dst := some 70, op := Op.move (Operand.tmp 69), type := _, pos := _, after := _, guard := some (4, true) }) rfl (by kernel_rfl) (by kernel_rfl) (by kernel_rfl) (fun _ _ _ h => h) (Or.inl ⟨by kernel_rfl, ?_⟩) (by assumption) ?_
            rotate_left
            · (intro wx hSw; (try dsimp only at hSw); go_simp) <;> with_reducible rfl
            try simp only [Act.put, List.setIfInBounds_toArray, List.set_cons_zero, List.set_cons_succ]
            refine wpAnyH_take (i := 16) (v := ?_) (oi := { dst := some 71, op := Op.fieldAddr 38 (Operand.tmp 8) 6, type := _, pos := _, after := _, guard := some (15, false) }) rfl (by kernel_rfl) (by kernel_rfl) (by kernel_rfl) (fun _ _ _ h => h) (Or.inl ⟨by kernel_rfl, ?_⟩) (by assumption) ?_
            rotate_left
            · (intro wx hSw; (try dsimp only at hSw); go_simp) <;> with_reducible rfl
            try simp only [Act.put, List.setIfInBounds_toArray, List.set_cons_zero, List.set_cons_succ]
            refine wpAnyH_take (i := 17) (v := ?_) (oi := { dst := some 72, op := Op.load 3 (Operand.tmp 71), type := _, pos := _, after := _, guard := some (15, false) }) rfl (by kernel_rfl) (by kernel_rfl) (by kernel_rfl) (fun _ _ _ h => h) (Or.inl ⟨by kernel_rfl, ?_⟩) (by assumption) ?_
            rotate_left
            · (intro wx hSw; (try dsimp only at hSw); have y0 := hSw.cell X9 (fun h => h); go_simp) <;> with_reducible rfl
            try simp only [Act.put, List.setIfInBounds_toArray, List.set_cons_zero, List.set_cons_succ]
            refine wpAnyH_take (i := 18) (v := ?_) (oi := { dst := some 73, op := Op.fieldAddr 36 (Operand.tmp 3) 1, type := _, pos := _, after := _, guard := some (15, false) }) rfl (by kernel_rfl) (by kernel_rfl) (by kernel_rfl) (fun _ _ _ h => h) (Or.inl ⟨by kernel_rfl, ?_⟩) (by assumption) ?_
            rotate_left
            · (intro wx hSw; (try dsimp only at hSw); go_simp) <;> with_reducible rfl
            try simp only [Act.put, List.setIfInBounds_toArray, List.set_cons_zero, List.set_cons_succ]
            refine wpAnyH_take (i := 19) (v := ?_) (oi := { dst := some 74, op := Op.load 34 (Operand.tmp 73), type := _, pos := _, after := _, guard := some (15, false) }) rfl (by kernel_rfl) (by kernel_rfl) (by kernel_rfl) (fun _ _ _ h => h) (Or.inl ⟨by kernel_rfl, ?_⟩) (by assumption) ?_
            rotate_left
            · (intro wx hSw; (try dsimp only at hSw); have y0 := hSw.cell X1 (fun h => h); go_simp) <;> with_reducible rfl
            try simp only [Act.put, List.setIfInBounds_toArray, List.set_cons_zero, List.set_cons_succ]
            refine wpAnyH_take (i := 20) (v := ?_) (oi := { dst := some 75, op := Op.move (Operand.tmp 11), type := _, pos := _, after := _, guard := some (15, false) }) rfl (by kernel_rfl) (by kernel_rfl) (by kernel_rfl) (fun _ _ _ h => h) (Or.inl ⟨by kernel_rfl, ?_⟩) (by assumption) ?_
            rotate_left
            · (intro wx hSw; (try dsimp only at hSw); go_simp) <;> with_reducible rfl
            try simp only [Act.put, List.setIfInBounds_toArray, List.set_cons_zero, List.set_cons_succ]
            refine wpAnyH_take (i := 21) (v := ?_) (oi := { dst := some 76, op := Op.indexAddr 34 (Operand.tmp 74) (Operand.tmp 75), type := _, pos := _, after := _, guard := some (15, false) }) rfl (by kernel_rfl) (by kernel_rfl) (by kernel_rfl) (fun _ _ _ h => h) (Or.inl ⟨by kernel_rfl, ?_⟩) (by assumption) ?_
            rotate_left
            · (intro wx hSw; (try dsimp only at hSw); go_simp) <;> with_reducible rfl
            try simp only [Act.put, List.setIfInBounds_toArray, List.set_cons_zero, List.set_cons_succ]
            refine wpAnyH_take (i := 22) (v := ?_) (oi := { dst := some 77, op := Op.load 3 (Operand.tmp 76), type := _, pos := _, after := _, guard := some (15, false) }) rfl (by kernel_rfl) (by kernel_rfl) (by kernel_rfl) (fun _ _ _ h => h) (Or.inl ⟨by kernel_rfl, ?_⟩) (by assumption) ?_
            rotate_left
            · (intro wx hSw; (try dsimp only at hSw); have y0 := hSw.cell XL (fun h => h); go_simp) <;> with_reducible rfl
            try simp only [Act.put, List.setIfInBounds_toArray, List.set_cons_zero, List.set_cons_succ]
            refine wpAnyH_take (i := 23) (v := ?_) (oi := { dst := some 78, op := Op.binOp BinOp.neq 3 (Operand.tmp 72) (Operand.tmp 77) 3, type := _, pos := _, after := _, guard := some (15, false) }) rfl (by kernel_rfl) (by kernel_rfl) (by kernel_rfl) (fun _ _ _ h => h) (Or.inl ⟨by kernel_rfl, ?_⟩) (by assumption) ?_
            rotate_left
            · (intro wx hSw; (try dsimp only at hSw); go_simp) <;> with_reducible rfl
            try simp only [Act.put, List.setIfInBounds_toArray, List.set_cons_zero, List.set_cons_succ]
            refine wpAnyH_take (i := 24) (v := ?_) (oi := { dst := some 79, op := Op.pick (Operand.tmp 70) (Operand.const (Value.bool true)) (Operand.tmp 78), type := _, pos := _, after := _, guard := some (4, true) }) rfl (by kernel_rfl) (by kernel_rfl) (by kernel_rfl) (fun _ _ _ h => h) (Or.inl ⟨by kernel_rfl, ?_⟩) (by assumption) ?_
            rotate_left
            · (intro wx hSw; (try dsimp only at hSw); go_simp) <;> with_reducible rfl
            try simp only [Act.put, List.setIfInBounds_toArray, List.set_cons_zero, List.set_cons_succ]
            refine wpAnyH_take (i := 25) (v := ?_) (oi := { dst := some 80, op := Op.pick (Operand.tmp 59) (Operand.tmp 79) (Operand.const (Value.bool false)), type := _, pos := _, after := _, guard := some (2, false) }) rfl (by kernel_rfl) (by kernel_rfl) (by kernel_rfl) (fun _ _ _ h => h) (Or.inl ⟨by kernel_rfl, ?_⟩) (by assumption) ?_
            rotate_left
            · (intro wx hSw; (try dsimp only at hSw); go_simp) <;> with_reducible rfl
            try simp only [Act.put, List.setIfInBounds_toArray, List.set_cons_zero, List.set_cons_succ]
            refine wpAnyH_take (i := 26) (v := ?_) (oi := { dst := some 81, op := Op.pick (Operand.tmp 57) (Operand.const (Value.bool true)) (Operand.tmp 80), type := _, pos := _, after := _, guard := none }) rfl (by kernel_rfl) (by kernel_rfl) (by kernel_rfl) (fun _ _ _ h => h) (Or.inl ⟨by kernel_rfl, ?_⟩) (by assumption) ?_
            rotate_left
            · (intro wx hSw; (try dsimp only at hSw); go_simp) <;> with_reducible rfl
            try simp only [Act.put, List.setIfInBounds_toArray, List.set_cons_zero, List.set_cons_succ]
            refine wpAnyH_take (i := 27) (v := ?_) (oi := { dst := some 82, op := Op.move (Operand.tmp 81), type := _, pos := _, after := _, guard := none }) rfl (by kernel_rfl) (by kernel_rfl) (by kernel_rfl) (fun _ _ _ h => h) (Or.inl ⟨by kernel_rfl, ?_⟩) (by assumption) ?_
            rotate_left
            · (intro wx hSw; (try dsimp only at hSw); go_simp) <;> with_reducible rfl
            try simp only [Act.put, List.setIfInBounds_toArray, List.set_cons_zero, List.set_cons_succ]
            refine wpAnyH_take (i := 28) (v := ?_) (oi := { dst := some 83, op := Op.move (Operand.tmp 12), type := _, pos := _, after := _, guard := some (27, false) }) rfl (by kernel_rfl) (by kernel_rfl) (by kernel_rfl) (fun _ _ _ h => h) (Or.inl ⟨by kernel_rfl, ?_⟩) (by assumption) ?_
            rotate_left
            · (intro wx hSw; (try dsimp only at hSw); go_simp) <;> with_reducible rfl
            try simp only [Act.put, List.setIfInBounds_toArray, List.set_cons_zero, List.set_cons_succ]
            refine wpAnyH_take (i := 29) (v := ?_) (oi := { dst := some 84, op := Op.unOp UnOp.not 4 (Operand.tmp 83), type := _, pos := _, after := _, guard := some (27, false) }) rfl (by kernel_rfl) (by kernel_rfl) (by kernel_rfl) (fun _ _ _ h => h) (Or.inl ⟨by kernel_rfl, ?_⟩) (by assumption) ?_
            rotate_left
            · (intro wx hSw; (try dsimp only at hSw); go_simp) <;> with_reducible rfl
            try simp only [Act.put, List.setIfInBounds_toArray, List.set_cons_zero, List.set_cons_succ]
            refine wpAnyH_take (i := 30) (v := ?_) (oi := { dst := some 85, op := Op.move (Operand.tmp 84), type := _, pos := _, after := _, guard := some (27, false) }) rfl (by kernel_rfl) (by kernel_rfl) (by kernel_rfl) (fun _ _ _ h => h) (Or.inl ⟨by kernel_rfl, ?_⟩) (by assumption) ?_
            rotate_left
            · (intro wx hSw; (try dsimp only at hSw); go_simp) <;> with_reducible rfl
            try simp only [Act.put, List.setIfInBounds_toArray, List.set_cons_zero, List.set_cons_succ]
            refine wpAnyH_take (i := 31) (v := undef) (oi := { dst := some 86, op := Op.move (Operand.tmp 9), type := _, pos := _, after := _, guard := some (30, true) }) rfl (by kernel_rfl) (by kernel_rfl) (by kernel_rfl) (fun _ _ _ h => h) (Or.inr ⟨by kernel_rfl, rfl⟩) (by assumption) ?_
            try simp only [Act.put, List.setIfInBounds_toArray, List.set_cons_zero, List.set_cons_succ]
            refine wpAnyH_take (i := 32) (v := undef) (oi := { dst := some 87, op := Op.binOp BinOp.neq 33 (Operand.tmp 86) (Operand.const (Value.complex FloatKind.f32 0 0)) 33, type := _, pos := _, after := _, guard := some (30, true) }) rfl (by kernel_rfl) (by kernel_rfl) (by kernel_rfl) (fun _ _ _ h => h) (Or.inr ⟨by kernel_rfl, rfl⟩) (by assumption) ?_
            try simp only [Act.put, List.setIfInBounds_toArray, List.set_cons_zero, List.set_cons_succ]
            refine wpAnyH_take (i := 33) (v := undef) (oi := { dst := some 88, op := Op.move (Operand.tmp 87), type := _, pos := _, after := _, guard := some (30, true) }) rfl (by kernel_rfl) (by kernel_rfl) (by kernel_rfl) (fun _ _ _ h => h) (Or.inr ⟨by kernel_rfl, rfl⟩) (by assumption) ?_
            try simp only [Act.put, List.setIfInBounds_toArray, List.set_cons_zero, List.set_cons_succ]
            refine wpAnyH_take (i := 34) (v := undef) (oi := { dst := some 89, op := Op.fieldAddr 38 (Operand.tmp 8) 6, type := _, pos := _, after := _, guard := some (33, false) }) rfl (by kernel_rfl) (by kernel_rfl) (by kernel_rfl) (fun _ _ _ h => h) (Or.inr ⟨by kernel_rfl, rfl⟩) (by assumption) ?_
            try simp only [Act.put, List.setIfInBounds_toArray, List.set_cons_zero, List.set_cons_succ]
            refine wpAnyH_take (i := 35) (v := undef) (oi := { dst := some 90, op := Op.load 3 (Operand.tmp 89), type := _, pos := _, after := _, guard := some (33, false) }) rfl (by kernel_rfl) (by kernel_rfl) (by kernel_rfl) (fun _ _ _ h => h) (Or.inr ⟨by kernel_rfl, rfl⟩) (by assumption) ?_
            try simp only [Act.put, List.setIfInBounds_toArray, List.set_cons_zero, List.set_cons_succ]
            refine wpAnyH_take (i := 36) (v := undef) (oi := { dst := some 91, op := Op.binOp BinOp.neq 3 (Operand.tmp 90) (Operand.const (Value.int IntKind.i64 (-1))) 3, type := _, pos := _, after := _, guard := some (33, false) }) rfl (by kernel_rfl) (by kernel_rfl) (by kernel_rfl) (fun _ _ _ h => h) (Or.inr ⟨by kernel_rfl, rfl⟩) (by assumption) ?_
            try simp only [Act.put, List.setIfInBounds_toArray, List.set_cons_zero, List.set_cons_succ]
            refine wpAnyH_take (i := 37) (v := undef) (oi := { dst := some 92, op := Op.pick (Operand.tmp 88) (Operand.const (Value.bool true)) (Operand.tmp 91), type := _, pos := _, after := _, guard := some (30, true) }) rfl (by kernel_rfl) (by kernel_rfl) (by kernel_rfl) (fun _ _ _ h => h) (Or.inr ⟨by kernel_rfl, rfl⟩) (by assumption) ?_
            try simp only [Act.put, List.setIfInBounds_toArray, List.set_cons_zero, List.set_cons_succ]
            refine wpAnyH_take (i := 38) (v := ?_) (oi := { dst := some 93, op := Op.pick (Operand.tmp 85) (Operand.tmp 92) (Operand.const (Value.bool false)), type := _, pos := _, after := _, guard := some (27, false) }) rfl (by kernel_rfl) (by kernel_rfl) (by kernel_rfl) (fun _ _ _ h => h) (Or.inl ⟨by kernel_rfl, ?_⟩) (by assumption) ?_
            rotate_left
            · (intro wx hSw; (try dsimp only at hSw); go_simp) <;> with_reducible rfl
            try simp only [Act.put, List.setIfInBounds_toArray, List.set_cons_zero, List.set_cons_succ]
            refine wpAnyH_take (i := 39) (v := ?_) (oi := { dst := some 94, op := Op.pick (Operand.tmp 82) (Operand.const (Value.bool true)) (Operand.tmp 93), type := _, pos := _, after := _, guard := none }) rfl (by kernel_rfl) (by kernel_rfl) (by kernel_rfl) (fun _ _ _ h => h) (Or.inl ⟨by kernel_rfl, ?_⟩) (by assumption) ?_
            rotate_left
            · (intro wx hSw; (try dsimp only at hSw); go_simp) <;> with_reducible rfl
            try simp only [Act.put, List.setIfInBounds_toArray, List.set_cons_zero, List.set_cons_succ]
            refine wpAnyH_done (by kernel_rfl) ?_ _
            have hG := hH9
            replace HO := hid (HO.out.chg hG fun _ _ _ h => h)
            replace HV := hid (OwnR.chg HV.out hG fun _ _ _ h => h)
            replace HY := hid (HY.out.chg hG (fun _ _ h => h))
            replace HG := hid (HG.out.trans hG fun _ _ h => h)
            replace R3 := hid (hG.heap R3.out (fun h => h))
            replace R4 := hid (hG.heap R4.out (fun h => h))
            replace HX := hid (HX.out.chg hG fun _ _ _ h => h)
            replace HO4 := hid (HO4.out.chg hG fun _ _ _ h => h)
            replace HV4 := hid (OwnR.chg HV4.out hG fun _ _ _ h => h)
            replace HO8 := hid (HO8.out.chg hG fun _ _ _ h => h)
            replace HV8 := hid (OwnR.chg HV8.out hG fun _ _ _ h => h)
            replace R8 := hid (hG.heap R8.out (fun h => h))
            have zq := hG.size
            clear hG
            have kR8 := cells_at R8.out
            have kR4 := cells_at R4.out
            have fR4 := frees_at R4.out
            clear X9 X0 X1 XP XL
            rename_i Kx hKx
            refine hKx _ _ ?_
            clear hKx
            go_wp2_with fail
            go_roundw
            case rel =>
              refine ⟨k + 1, a8, c8, a9, c9, zc, by omega, by go_num, ?_⟩
              refine SlRel.step HY HO HV R3 HO8 HV8 R4 HX HG (by omega) (by omega) (by omega) ?_ (heap_row11 R4.out _ _ _ _ _ _ _ _ _ _ _)
              repeat (first | (with_reducible exact Chg.refl _ _) | (with_reducible refine Chg.setCell ?_ ?_ _; rotate_left; exact .inl rfl))
            case measure => simp [intOf]; omega
        · have ey : (y1, y2) = (0, 0) := by rw [← EY.out]; unfold slY; rw [if_neg (by omega)]
          have ec : C = -1 := by rw [← EC.out]; unfold slC; rw [if_neg (by omega)]
          injection ey with e1 e2
          subst e1 e2 ec
          clear hm EY EC
          have oz : FloatKind.f32.format.order 0 0 = some .eq := by decide +kernel
          have X9 : w10.cell? ⟨b8, 9, none⟩ = some (.int .i64 (-1)) := cell_at R8.out
          go_upto_region 12 with fail
          refine wp_region_held_drew (S := fun wx => Chg (fun _ => False) w10 wx) (by kernel_rfl) ((Chg.refl _ w10).drew) (fun hH => ?_)
          have zd : w10.heap.size ≤ w10.drew.heap.size := Nat.le_refl _
          generalize w10.drew = wd at *
          refine wpAnyH_take (i := 0) (v := ?_) (oi := { dst := some 55, op := Op.move (Operand.tmp 10), type := _, pos := _, after := _, guard := none }) rfl (by kernel_rfl) (by kernel_rfl) (by kernel_rfl) (fun _ _ _ h => h) (Or.inl ⟨by kernel_rfl, ?_⟩) (by assumption) ?_
          rotate_left
          · (intro wx hSw; (try dsimp only at hSw); go_simp) <;> with_reducible rfl
          try simp only [Act.put, List.setIfInBounds_toArray, List.set_cons_zero, List.set_cons_succ]
          refine wpAnyH_take (i := 1) (v := ?_) (oi := { dst := some 56, op := Op.unOp UnOp.not 4 (Operand.tmp 55), type := _, pos := _, after := _, guard := none }) rfl (by kernel_rfl) (by kernel_rfl) (by kernel_rfl) (fun _ _ _ h => h) (Or.inl ⟨by kernel_rfl, ?_⟩) (by assumption) ?_
          rotate_left
          · (intro wx hSw; (try dsimp only at hSw); go_simp) <;> with_reducible rfl
          try simp only [Act.put, List.setIfInBounds_toArray, List.set_cons_zero, List.set_cons_succ]
          refine wpAnyH_take (i := 2) (v := ?_) (oi := { dst := some 57, op := Op.move (Operand.tmp 56), type := _, pos := _, after := _, guard := none }) rfl (by kernel_rfl) (by kernel_rfl) (by kernel_rfl) (fun _ _ _ h => h) (Or.inl ⟨by kernel_rfl, ?_⟩) (by assumption) ?_
          rotate_left
          · (intro wx hSw; (try dsimp only at hSw); go_simp) <;> with_reducible rfl
          try simp only [Act.put, List.setIfInBounds_toArray, List.set_cons_zero, List.set_cons_succ]
          refine wpAnyH_take (i := 3) (v := ?_) (oi := { dst := some 58, op := Op.move (Operand.tmp 12), type := _, pos := _, after := _, guard := some (2, false) }) rfl (by kernel_rfl) (by kernel_rfl) (by kernel_rfl) (fun _ _ _ h => h) (Or.inl ⟨by kernel_rfl, ?_⟩) (by assumption) ?_
          rotate_left
          · (intro wx hSw; (try dsimp only at hSw); go_simp) <;> with_reducible rfl
          try simp only [Act.put, List.setIfInBounds_toArray, List.set_cons_zero, List.set_cons_succ]
          refine wpAnyH_take (i := 4) (v := ?_) (oi := { dst := some 59, op := Op.move (Operand.tmp 58), type := _, pos := _, after := _, guard := some (2, false) }) rfl (by kernel_rfl) (by kernel_rfl) (by kernel_rfl) (fun _ _ _ h => h) (Or.inl ⟨by kernel_rfl, ?_⟩) (by assumption) ?_
          rotate_left
          · (intro wx hSw; (try dsimp only at hSw); go_simp) <;> with_reducible rfl
          try simp only [Act.put, List.setIfInBounds_toArray, List.set_cons_zero, List.set_cons_succ]
          refine wpAnyH_take (i := 5) (v := undef) (oi := { dst := some 60, op := Op.move (Operand.tmp 9), type := _, pos := _, after := _, guard := some (4, true) }) rfl (by kernel_rfl) (by kernel_rfl) (by kernel_rfl) (fun _ _ _ h => h) (Or.inr ⟨by kernel_rfl, rfl⟩) (by assumption) ?_
          try simp only [Act.put, List.setIfInBounds_toArray, List.set_cons_zero, List.set_cons_succ]
          refine wpAnyH_take (i := 6) (v := undef) (oi := { dst := some 61, op := _, type := _, pos := _, after := _, guard := some (4, true) }) rfl (by kernel_rfl) (by kernel_rfl) (by kernel_rfl) (fun _ _ _ h => h) (Or.inr ⟨by kernel_rfl, rfl⟩) (by assumption) ?_
          try simp only [Act.put, List.setIfInBounds_toArray, List.set_cons_zero, List.set_cons_succ]
          refine wpAnyH_take (i := 7) (v := undef) (oi := { dst := some 62, op := Op.fieldAddr 36 (Operand.tmp 3) 0, type := _, pos := _, after := _, guard := some (4, true) }) rfl (by kernel_rfl) (by kernel_rfl) (by kernel_rfl) (fun _ _ _ h => h) (Or.inr ⟨by kernel_rfl, rfl⟩) (by assumption) ?_
          try simp only [Act.put, List.setIfInBounds_toArray, List.set_cons_zero, List.set_cons_succ]
          refine wpAnyH_take (i := 8) (v := undef) (oi := { dst := some 63, op := Op.load 25 (Operand.tmp 62), type := _, pos := _, after := _, guard := some (4, true) }) rfl (by kernel_rfl) (by kernel_rfl) (by kernel_rfl) (fun _ _ _ h => h) (Or.inr ⟨by kernel_rfl, rfl⟩) (by assumption) ?_
          try simp only [Act.put, List.setIfInBounds_toArray, List.set_cons_zero, List.set_cons_succ]
          refine wpAnyH_take (i := 9) (v := undef) (oi := { dst := some 64, op := Op.move (Operand.tmp 11), type := _, pos := _, after := _, guard := some (4, true) }) rfl (by kernel_rfl) (by kernel_rfl) (by kernel_rfl) (fun _ _ _ h => h) (Or.inr ⟨by kernel_rfl, rfl⟩) (by assumption) ?_
          try simp only [Act.put, List.setIfInBounds_toArray, List.set_cons_zero, List.set_cons_succ]
          refine wpAnyH_take (i := 10) (v := undef) (oi := { dst := some 65, op := Op.indexAddr 25 (Operand.tmp 63) (Operand.tmp 64), type := _, pos := _, after := _, guard := some (4, true) }) rfl (by kernel_rfl) (by kernel_rfl) (by kernel_rfl) (fun _ _ _ h => h) (Or.inr ⟨by kernel_rfl, rfl⟩) (by assumption) ?_
          try simp only [Act.put, List.setIfInBounds_toArray, List.set_cons_zero, List.set_cons_succ]
          refine wpAnyH_take (i := 11) (v := undef) (oi := { dst := some 66, op := Op.load 33 (Operand.tmp 65), type := _, pos := _, after := _, guard := some (4, true) }) rfl (by kernel_rfl) (by kernel_rfl) (by kernel_rfl) (fun _ _ _ h => h) (Or.inr ⟨by kernel_rfl, rfl⟩) (by assumption) ?_
          try simp only [Act.put, List.setIfInBounds_toArray, List.set_cons_zero, List.set_cons_succ]
          refine wpAnyH_take (i := 12) (v := undef) (oi := { dst := some 67, op := _, type := _, pos := _, after := _, guard := some (4, true) }) rfl (by kernel_rfl) (by kernel_rfl) (by kernel_rfl) (fun _ _ _ h => h) (Or.inr ⟨by kernel_rfl, rfl⟩) (by assumption) ?_
          try simp only [Act.put, List.setIfInBounds_toArray, List.set_cons_zero, List.set_cons_succ]
          refine wpAnyH_take (i := 13) (v := undef) (oi := { dst := some 68, op := _, type := _, pos := _, after := _, guard := some (4, true) }) rfl (by kernel_rfl) (by kernel_rfl) (by kernel_rfl) (fun _ _ _ h => h) (Or.inr ⟨by kernel_rfl, rfl⟩) (by assumption) ?_
          try simp only [Act.put, List.setIfInBounds_toArray, List.set_cons_zero, List.set_cons_succ]
          refine wpAnyH_take (i := 14) (v := undef) (oi := { dst := some 69, op := Op.unOp UnOp.not 4 (Operand.tmp 68), type := _, pos := _, after := _, guard := some (4, true) }) rfl (by kernel_rfl) (by kernel_rfl) (by kernel_rfl) (fun _ _ _ h => h) (Or.inr ⟨by kernel_rfl, rfl⟩) (by assumption) ?_
          try simp only [Act.put, List.setIfInBounds_toArray, List.set_cons_zero, List.set_cons_succ]
          refine wpAnyH_take (i := 15) (v := undef) (oi := { dst := some 70, op := Op.move (Operand.tmp 69), type := _, pos := _, after := _, guard := some (4, true) }) rfl (by kernel_rfl) (by kernel_rfl) (by kernel_rfl) (fun _ _ _ h => h) (Or.inr ⟨by kernel_rfl, rfl⟩) (by assumption) ?_
          try simp only [Act.put, List.setIfInBounds_toArray, List.set_cons_zero, List.set_cons_succ]
          refine wpAnyH_take (i := 16) (v := undef) (oi := { dst := some 71, op := Op.fieldAddr 38 (Operand.tmp 8) 6, type := _, pos := _, after := _, guard := some (15, false) }) rfl (by kernel_rfl) (by kernel_rfl) (by kernel_rfl) (fun _ _ _ h => h) (Or.inr ⟨by kernel_rfl, rfl⟩) (by assumption) ?_
          try simp only [Act.put, List.setIfInBounds_toArray, List.set_cons_zero, List.set_cons_succ]
          refine wpAnyH_take (i := 17) (v := undef) (oi := { dst := some 72, op := Op.load 3 (Operand.tmp 71), type := _, pos := _, after := _, guard := some (15, false) }) rfl (by kernel_rfl) (by kernel_rfl) (by kernel_rfl) (fun _ _ _ h => h) (Or.inr ⟨by kernel_rfl, rfl⟩) (by assumption) ?_
          try simp only [Act.put, List.setIfInBounds_toArray, List.set_cons_zero, List.set_cons_succ]
          refine wpAnyH_take (i := 18) (v := undef) (oi := { dst := some 73, op := Op.fieldAddr 36 (Operand.tmp 3) 1, type := _, pos := _, after := _, guard := some (15, false) }) rfl (by kernel_rfl) (by kernel_rfl) (by kernel_rfl) (fun _ _ _ h => h) (Or.inr ⟨by kernel_rfl, rfl⟩) (by assumption) ?_
          try simp only [Act.put, List.setIfInBounds_toArray, List.set_cons_zero, List.set_cons_succ]
          refine wpAnyH_take (i := 19) (v := undef) (oi := { dst := some 74, op := Op.load 34 (Operand.tmp 73), type := _, pos := _, after := _, guard := some (15, false) }) rfl (by kernel_rfl) (by kernel_rfl) (by kernel_rfl) (fun _ _ _ h => h) (Or.inr ⟨by kernel_rfl, rfl⟩) (by assumption) ?_
          try simp only [Act.put, List.setIfInBounds_toArray, List.set_cons_zero, List.set_cons_succ]
          refine wpAnyH_take (i := 20) (v := undef) (oi := { dst := some 75, op := Op.move (Operand.tmp 11), type := _, pos := _, after := _, guard := some (15, false) }) rfl (by kernel_rfl) (by kernel_rfl) (by kernel_rfl) (fun _ _ _ h => h) (Or.inr ⟨by kernel_rfl, rfl⟩) (by assumption) ?_
          try simp only [Act.put, List.setIfInBounds_toArray, List.set_cons_zero, List.set_cons_succ]
          refine wpAnyH_take (i := 21) (v := undef) (oi := { dst := some 76, op := Op.indexAddr 34 (Operand.tmp 74) (Operand.tmp 75), type := _, pos := _, after := _, guard := some (15, false) }) rfl (by kernel_rfl) (by kernel_rfl) (by kernel_rfl) (fun _ _ _ h => h) (Or.inr ⟨by kernel_rfl, rfl⟩) (by assumption) ?_
          try simp only [Act.put, List.setIfInBounds_toArray, List.set_cons_zero, List.set_cons_succ]
          refine wpAnyH_take (i := 22) (v := undef) (oi := { dst := some 77, op := Op.load 3 (Operand.tmp 76), type := _, pos := _, after := _, guard := some (15, false) }) rfl (by kernel_rfl) (by kernel_rfl) (by kernel_rfl) (fun _ _ _ h => h) (Or.inr ⟨by kernel_rfl, rfl⟩) (by assumption) ?_
          try simp only [Act.put, List.setIfInBounds_toArray, List.set_cons_zero, List.set_cons_succ]
          refine wpAnyH_take (i := 23) (v := undef) (oi := { dst := some 78, op := Op.binOp BinOp.neq 3 (Operand.tmp 72) (Operand.tmp 77) 3, type := _, pos := _, after := _, guard := some (15, false) }) rfl (by kernel_rfl) (by kernel_rfl) (by kernel_rfl) (fun _ _ _ h => h) (Or.inr ⟨by kernel_rfl, rfl⟩) (by assumption) ?_
          try simp only [Act.put, List.setIfInBounds_toArray, List.set_cons_zero, List.set_cons_succ]
          refine wpAnyH_take (i := 24) (v := undef) (oi := { dst := some 79, op := Op.pick (Operand.tmp 70) (Operand.const (Value.bool true)) (Operand.tmp 78), type := _, pos := _, after := _, guard := some (4, true) }) rfl (by kernel_rfl) (by kernel_rfl) (by kernel_rfl) (fun _ _ _ h => h) (Or.inr ⟨by kernel_rfl, rfl⟩) (by assumption) ?_
          try simp only [Act.put, List.setIfInBounds_toArray, List.set_cons_zero, List.set_cons_succ]
          refine wpAnyH_take (i := 25) (v := ?_) (oi := { dst := some 80, op := Op.pick (Operand.tmp 59) (Operand.tmp 79) (Operand.const (Value.bool false)), type := _, pos := _, after := _, guard := some (2, false) }) rfl (by kernel_rfl) (by kernel_rfl) (by kernel_rfl) (fun _ _ _ h => h) (Or.inl ⟨by kernel_rfl, ?_⟩) (by assumption) ?_
          rotate_left
          · (intro wx hSw; (try dsimp only at hSw); go_simp) <;> with_reducible rfl
          try simp only [Act.put, List.setIfInBounds_toArray, List.set_cons_zero, List.set_cons_succ]
          refine wpAnyH_take (i := 26) (v := ?_) (oi := { dst := some 81, op := Op.pick (Operand.tmp 57) (Operand.const (Value.bool true)) (Operand.tmp 80), type := _, pos := _, after := _, guard := none }) rfl (by kernel_rfl) (by kernel_rfl) (by kernel_rfl) (fun _ _ _ h => h) (Or.inl ⟨by kernel_rfl, ?_⟩) (by assumption) ?_
          rotate_left
          · (intro wx hSw; (try dsimp only at hSw); go_simp) <;> with_reducible rfl
          try simp only [Act.put, List.setIfInBounds_toArray, List.set_cons_zero, List.set_cons_succ]
          refine wpAnyH_take (i := 27) (v := ?_) (oi := { dst := some 82, op := Op.move (Operand.tmp 81), type := _, pos := _, after := _, guard := none }) rfl (by kernel_rfl) (by kernel_rfl) (by kernel_rfl) (fun _ _ _ h => h) (Or.inl ⟨by kernel_rfl, ?_⟩) (by assumption) ?_
          rotate_left
          · (intro wx hSw; (try dsimp only at hSw); go_simp) <;> with_reducible rfl
          try simp only [Act.put, List.setIfInBounds_toArray, List.set_cons_zero, List.set_cons_succ]
          refine wpAnyH_take (i := 28) (v := ?_) (oi := { dst := some 83, op := Op.move (Operand.tmp 12), type := _, pos := _, after := _, guard := some (27, false) }) rfl (by kernel_rfl) (by kernel_rfl) (by kernel_rfl) (fun _ _ _ h => h) (Or.inl ⟨by kernel_rfl, ?_⟩) (by assumption) ?_
          rotate_left
          · (intro wx hSw; (try dsimp only at hSw); go_simp) <;> with_reducible rfl
          try simp only [Act.put, List.setIfInBounds_toArray, List.set_cons_zero, List.set_cons_succ]
          refine wpAnyH_take (i := 29) (v := ?_) (oi := { dst := some 84, op := Op.unOp UnOp.not 4 (Operand.tmp 83), type := _, pos := _, after := _, guard := some (27, false) }) rfl (by kernel_rfl) (by kernel_rfl) (by kernel_rfl) (fun _ _ _ h => h) (Or.inl ⟨by kernel_rfl, ?_⟩) (by assumption) ?_
          rotate_left
          · (intro wx hSw; (try dsimp only at hSw); go_simp) <;> with_reducible rfl
          try simp only [Act.put, List.setIfInBounds_toArray, List.set_cons_zero, List.set_cons_succ]
          refine wpAnyH_take (i := 30) (v := ?_) (oi := { dst := some 85, op := Op.move (Operand.tmp 84), type := _, pos := _, after := _, guard := some (27, false) }) rfl (by kernel_rfl) (by kernel_rfl) (by kernel_rfl) (fun _ _ _ h => h) (Or.inl ⟨by kernel_rfl, ?_⟩) (by assumption) ?_
          rotate_left
          · (intro wx hSw; (try dsimp only at hSw); go_simp) <;> with_reducible rfl
          try simp only [Act.put, List.setIfInBounds_toArray, List.set_cons_zero, List.set_cons_succ]
          refine wpAnyH_take (i := 31) (v := ?_) (oi := { dst := some 86, op := Op.move (Operand.tmp 9), type := _, pos := _, after := _, guard := some (30, true) }) rfl (by kernel_rfl) (by kernel_rfl) (by kernel_rfl) (fun _ _ _ h => h) (Or.inl ⟨by kernel_rfl, ?_⟩) (by assumption) ?_
          rotate_left
          · (intro wx hSw; (try dsimp only at hSw); go_simp) <;> with_reducible rfl
          try simp only [Act.put, List.setIfInBounds_toArray, List.set_cons_zero, List.set_cons_succ]
          refine wpAnyH_take (i := 32) (v := ?_) (oi := { dst := some 87, op := Op.binOp BinOp.neq 33 (Operand.tmp 86) (Operand.const (Value.complex FloatKind.f32 0 0)) 33, type := _, pos := _, after := _, guard := some (30, true) }) rfl (by kernel_rfl) (by kernel_rfl) (by kernel_rfl) (fun _ _ _ h => h) (Or.inl ⟨by kernel_rfl, ?_⟩) (by assumption) ?_
          rotate_left
          · (intro wx hSw; (try dsimp only at hSw); go_simp) <;> with_reducible rfl
          try simp only [Act.put, List.setIfInBounds_toArray, List.set_cons_zero, List.set_cons_succ]
          refine wpAnyH_take (i := 33) (v := ?_) (oi := { dst := some 88, op := Op.move (Operand.tmp 87), type := _, pos := _, after := _, guard := some (30, true) }) rfl (by kernel_rfl) (by kernel_rfl) (by kernel_rfl) (fun _ _ _ h => h) (Or.inl ⟨by kernel_rfl, ?_⟩) (by assumption) ?_
          rotate_left
          · (intro wx hSw; (try dsimp only at hSw); go_simp) <;> with_reducible rfl
          try simp only [Act.put, List.setIfInBounds_toArray, List.set_cons_zero, List.set_cons_succ]
          refine wpAnyH_take (i := 34) (v := ?_) (oi := { dst := some 89, op := Op.fieldAddr 38 (Operand.tmp 8) 6, type := _, pos := _, after := _, guard := some (33, false) }) rfl (by kernel_rfl) (by kernel_rfl) (by kernel_rfl) (fun _ _ _ h => h) (Or.inl ⟨by kernel_rfl, ?_⟩) (by assumption) ?_
          rotate_left
          · (intro wx hSw; (try dsimp only at hSw); go_simp) <;> with_reducible rfl
          try simp only [Act.put, List.setIfInBounds_toArray, List.set_cons_zero, List.set_cons_succ]
          refine wpAnyH_take (i := 35) (v := ?_) (oi := { dst := some 90, op := Op.load 3 (Operand.tmp 89), type := _, pos := _, after := _, guard := some (33, false) }) rfl (by kernel_rfl) (by kernel_rfl) (by kernel_rfl) (fun _ _ _ h => h) (Or.inl ⟨by kernel_rfl, ?_⟩) (by assumption) ?_
          rotate_left
          · (intro wx hSw; (try dsimp only at hSw); have y0 := hSw.cell X9 (fun h => h); go_simp) <;> with_reducible rfl
          try simp only [Act.put, List.setIfInBounds_toArray, List.set_cons_zero, List.set_cons_succ]
          refine wpAnyH_take (i := 36) (v := ?_) (oi := { dst := some 91, op := Op.binOp BinOp.neq 3 (Operand.tmp 90) (Operand.const (Value.int IntKind.i64 (-1))) 3, type := _, pos := _, after := _, guard := some (33, false) }) rfl (by kernel_rfl) (by kernel_rfl) (by kernel_rfl) (fun _ _ _ h => h) (Or.inl ⟨by kernel_rfl, ?_⟩) (by assumption) ?_
          rotate_left
          · (intro wx hSw; (try dsimp only at hSw); go_simp) <;> with_reducible rfl
          try simp only [Act.put, List.setIfInBounds_toArray, List.set_cons_zero, List.set_cons_succ]
          refine wpAnyH_take (i := 37) (v := ?_) (oi := { dst := some 92, op := Op.pick (Operand.tmp 88) (Operand.const (Value.bool true)) (Operand.tmp 91), type := _, pos := _, after := _, guard := some (30, true) }) rfl (by kernel_rfl) (by kernel_rfl) (by kernel_rfl) (fun _ _ _ h => h) (Or.inl ⟨by kernel_rfl, ?_⟩) (by assumption) ?_
          rotate_left
          · (intro wx hSw; (try dsimp only at hSw); go_simp) <;> with_reducible rfl
          try simp only [Act.put, List.setIfInBounds_toArray, List.set_cons_zero, List.set_cons_succ]
          refine wpAnyH_take (i := 38) (v := ?_) (oi := { dst := some 93, op := Op.pick (Operand.tmp 85) (Operand.tmp 92) (Operand.const (Value.bool false)), type := _, pos := _, after := _, guard := some (27, false) }) rfl (by kernel_rfl) (by kernel_rfl) (by kernel_rfl) (fun _ _ _ h => h) (Or.inl ⟨by kernel_rfl, ?_⟩) (by assumption) ?_
          rotate_left
          · (intro wx hSw; (try dsimp only at hSw); go_simp) <;> with_reducible rfl
          try simp only [Act.put, List.setIfInBounds_toArray, List.set_cons_zero, List.set_cons_succ]
          refine wpAnyH_take (i := 39) (v := ?_) (oi := { dst := some 94, op := Op.pick (Operand.tmp 82) (Operand.const (Value.bool true)) (Operand.tmp 93), type := _, pos := _, after := _, guard := none }) rfl (by kernel_rfl) (by kernel_rfl) (by kernel_rfl) (fun _ _ _ h => h) (Or.inl ⟨by kernel_rfl, ?_⟩) (by assumption) ?_
          rotate_left
          · (intro wx hSw; (try dsimp only at hSw); go_simp) <;> with_reducible rfl
          try simp only [Act.put, List.setIfInBounds_toArray, List.set_cons_zero, List.set_cons_succ]
          refine wpAnyH_done (by kernel_rfl) ?_ _
          have hG := hH
          replace HO := hid (HO.out.chg hG fun _ _ _ h => h)
          replace HV := hid (OwnR.chg HV.out hG fun _ _ _ h => h)
          replace HY := hid (HY.out.chg hG (fun _ _ h => h))
          replace HG := hid (HG.out.trans hG fun _ _ h => h)
          replace R3 := hid (hG.heap R3.out (fun h => h))
          replace R4 := hid (hG.heap R4.out (fun h => h))
          replace HX := hid (HX.out.chg hG fun _ _ _ h => h)
          replace HO4 := hid (HO4.out.chg hG fun _ _ _ h => h)
          replace HV4 := hid (OwnR.chg HV4.out hG fun _ _ _ h => h)
          replace HO8 := hid (HO8.out.chg hG fun _ _ _ h => h)
          replace HV8 := hid (OwnR.chg HV8.out hG fun _ _ _ h => h)
          replace R8 := hid (hG.heap R8.out (fun h => h))
          have zq := hG.size
          clear hG
          have kR8 := cells_at R8.out
          have kR4 := cells_at R4.out
          have fR4 := frees_at R4.out
          clear X9 oz
          rename_i Kx hKx
          refine hKx _ _ ?_
          clear hKx
          go_wp2_with fail
          go_roundw
          case rel =>
            refine ⟨k + 1, a8, c8, a9, c9, -1, by omega, by go_num, ?_⟩
            refine SlRel.step HY HO HV R3 HO8 HV8 R4 HX HG (by omega) (by omega) (by omega) ?_ (heap_row11 R4.out _ _ _ _ _ _ _ _ _ _ _)
            repeat (first | (with_reducible exact Chg.refl _ _) | (with_reducible refine Chg.setCell ?_ ?_ _; rotate_left; exact .inl rfl))
          case measure => simp [intOf]; omega
      · obtain rfl : k = n := by omega
        have hlt' : ¬ (k : Int) < (k : Int) := by omega
        have HY7 := hid (show Bytes w7 w7.heap.size a len cap from (by obtain ⟨h1, h2, h3⟩ := HY.out; exact ⟨h1, h2, fun k hk => by obtain ⟨b, off, z, h4, h5, h6⟩ := h3 k hk; exact ⟨b, off, z, h4, by have := HG.out.size; omega, h6⟩⟩))
        clear HO HV R3 HO4 HV4 R4 HX HN HT HL hls n64
        go_wp2_with fail
        refine (at_calls _ _ _ _ HY7.out 1 (by omega)).mono ?_
        rintro e w8 ⟨x, hx, rfl, hw⟩
        subst hw
        clear HY HY7
        obtain ⟨s, hs⟩ : ∃ s, s = 1 + x % 8 := ⟨_, rfl⟩
        have s1 : 1 ≤ s := by omega
        have s8 : s ≤ 8 := by omega
        have hgr : ∀ (w : World) (q : Int), q = (s : Int) → Calls Try.prog 83 #[.int .i64 q] w (RGr w s) := by
          rintro w q rfl
          exact GridTable_calls w s s1 s8
        have HGR := hid hgr
        have HS := hid hs
        clear hgr hs
        go_wp2_with fail
        refine (HGR.out _ _ (by have := HS.out; omega)).mono ?_
        rintro e w1 ⟨a1, c1, a2, c2, he, hO, hV, hG⟩
        obtain ⟨xs, hxs⟩ : ∃ xs, gridP s (s * s) = xs := ⟨_, rfl⟩
        obtain ⟨zs, hzs⟩ : ∃ zs, gridL (s * s) = zs := ⟨_, rfl⟩
        have hl : s * s = xs.length := by rw [← hxs, gridP_len]
        have hl2 : zs.length = xs.length := by rw [← hzs, gridL_len, hl]
        have HT := hid (show TOk xs by rw [← hxs]; exact gridP_ok s s1 s8)
        have HL := hid hl2
        have GN := hid (show ∀ i, i < xs.length → nrI xs (xs.getD i (0, 0)) = (i : Int) ∧ zs.getD i 0 = (i : Int) ∧ isN .f32 (xs.getD i (0, 0)).1 = false ∧ isN .f32 (xs.getD i (0, 0)).2 = false by
          intro i hi
          rw [← hl] at hi
          refine ⟨by rw [← hxs]; exact grid_nr s1 s8 hi, by rw [← hzs, List.getD_eq_getElem?_getD]; unfold gridL; simp [hi], ?_⟩
          rw [← hxs, gridP_at hi]
          obtain ⟨d1, d2⟩ := grid_div s1 hi
          obtain ⟨e1, e2⟩ := grid_lt s8 d1
          obtain ⟨e3, e4⟩ := grid_lt s8 d2
          exact ⟨fin_notN (f7 e1 e2).2, fin_notN (f7 e3 e4).2⟩)
        have n64 := HT.out.len
        rw [hxs, hl] at hO
        rw [hzs, hl] at hV
        rw [hl] at he
        clear hl hl2 hxs hzs s1 s8 HGR HS hx
        subst he
        have HO := hid (hO.mono (Nat.zero_le _))
        have HV := hid (OwnR.mono hV (Nat.zero_le _))
        replace HG := hid (HG.out.trans hG fun _ _ h => h)
        clear hO hV hG
        have A1 := (Chg.refl (fun _ => False) w1).alloc (.cells #[.slice a1 xs.length c1, .slice a2 xs.length c2] 36)
        have R3 := hid (heap_new w1 (.cells #[.slice a1 xs.length c1, .slice a2 xs.length c2] 36))
        replace HO := hid (HO.out.chg A1 fun _ _ _ h => h)
        replace HV := hid (OwnR.chg HV.out A1 fun _ _ _ h => h)
        replace HG := hid (HG.out.trans A1 fun _ _ h => h)
        have lb3 : w1.heap.size < (w1.alloc (.cells #[.slice a1 xs.length c1, .slice a2 xs.length c2] 36)).heap.size := by simp
        clear A1
        go_upto_region 17 with fail
        generalize w1.alloc (.cells #[.slice a1 xs.length c1, .slice a2 xs.length c2] 36) = w2 at *
        generalize w1.heap.size = b3' at *
        have kR3 := cells_at R3.out
        go_wp2_with fail
        refine (NewSlicer_calls _ _ _ xs zs HO.out HV.out HT.out HL.out).mono ?_
        rintro e w3 ⟨a4, c4, a5, c5, rfl, hO, hV, hG⟩
        have HO4 := hid (hO.mono (Nat.zero_le _))
        rw [HL.out] at hV ⊢
        have HV4 := hid (OwnR.mono hV (Nat.zero_le _))
        replace HO := hid (HO.out.chg hG fun _ _ _ h => h)
        replace HV := hid (OwnR.chg HV.out hG fun _ _ _ h => h)
        replace HG := hid (HG.out.trans hG fun _ _ h => h)
        replace R3 := hid (hG.heap R3.out (fun h => h))
        clear hO hV hG kR3
        have A1 := (Chg.refl (fun _ => False) w3).alloc (.cells #[.int .i64 (6), .complex .f32 0 0, .complex .f32 0 0, .float .f32 0, .slice none 0 0, .int .i64 (0), .int .i64 (0), .slice a4 xs.length c4, .slice a5 xs.length c5, .int .i64 (0), .int .i64 (0)] 38)
        have R4 := hid (heap_new w3 (.cells #[.int .i64 (6), .complex .f32 0 0, .complex .f32 0 0, .float .f32 0, .slice none 0 0, .int .i64 (0), .int .i64 (0), .slice a4 xs.length c4, .slice a5 xs.length c5, .int .i64 (0), .int .i64 (0)] 38))
        replace HO := hid (HO.out.chg A1 fun _ _ _ h => h)
        replace HV := hid (OwnR.chg HV.out A1 fun _ _ _ h => h)
        replace HG := hid (HG.out.trans A1 fun _ _ h => h)
        replace R3 := hid (A1.heap R3.out (fun h => h))
        replace HO4 := hid (HO4.out.chg A1 fun _ _ _ h => h)
        replace HV4 := hid (OwnR.chg HV4.out A1 fun _ _ _ h => h)
        clear A1
        go_upto_region 18 with fail
        generalize w3.alloc (.cells #[.int .i64 (6), .complex .f32 0 0, .complex .f32 0 0, .float .f32 0, .slice none 0 0, .int .i64 (0), .int .i64 (0), .slice a4 xs.length c4, .slice a5 xs.length c5, .int .i64 (0), .int .i64 (0)] 38) = w4 at *
        generalize w3.heap.size = b4' at *
        have kR3 := cells_at R3.out
        go_wp2_with fail
        clear kR3 R3
        go_loopw [113] (fun i wr => ∃ (k : Nat), k ≤ xs.length ∧ i = .int .i64 (k : Int) ∧ Hid (OwnC wr 0 (.slice a1 xs.length c1) xs) ∧ Hid (OwnC wr 0 (.slice a4 xs.length c4) xs) ∧ Hid (OwnN wr 0 (.slice a5 xs.length c5) zs) ∧ Hid (wr.heap[b4']? = some (.cells #[.int .i64 (6), .complex .f32 0 0, .complex .f32 0 0, .float .f32 0, .slice none 0 0, .int .i64 (0), .int .i64 (0), .slice a4 xs.length c4, .slice a5 xs.length c5, .int .i64 (0), .int .i64 (0)] 38 (0, 0))) ∧ Hid (Chg (fun _ => False) w wr)) (fun i _ => xs.length - (intOf i).toNat)
        case atStart => exact ⟨0, Nat.zero_le _, rfl, HO, HO4, HV4, R4, HG⟩
        case round =>
          clear HO HV HO4 HV4 R4 HG
          obtain ⟨k2, hk2, rfl, HO, HO4, HV4, R4, HG⟩ := hrel
          obtain ⟨w7', rfl⟩ : ∃ w7' : World, w7' = wr := ⟨_, rfl⟩
          by_cases hlt2 : k2 < xs.length
          · have hlt2' : (k2 : Int) < (xs.length : Int) := by omega
            obtain ⟨g, cc, cur, hva, hga, hgb, hgd, hgha, hcl⟩ := HO.out.at2 (n := xs.length) rfl (by omega)
            simp at hva
            obtain ⟨rfl, rfl⟩ := hva
            have x0 : w7'.cell? ⟨g, k2, none⟩ = some (.complex .f32 (xs.getD k2 (0, 0)).1 (xs.getD k2 (0, 0)).2) := by rw [cell_at hgha, hcl k2 hlt2]; rfl
            obtain ⟨f1, f2, f3, f4⟩ := GN.out k2 hlt2
            obtain ⟨pt, hpt⟩ : ∃ pt, xs.getD k2 (0, 0) = pt := ⟨_, rfl⟩
            rw [hpt] at x0 f1 f3 f4
            have EY := hid (show slY xs pt = pt by unfold slY; rw [f1, if_pos (by omega)]; exact hpt)
            have EC := hid (show slC xs zs pt = (k2 : Int) by unfold slC; rw [f1, if_pos (by omega)]; exact f2)
            have e1 : FloatKind.f32.format.order pt.1 pt.1 = some .eq := by rw [order_self, f3]; rfl
            have e2 : FloatKind.f32.format.order pt.2 pt.2 = some .eq := by rw [order_self, f4]; rfl
            clear hpt f1 f2 f3 f4 hcl hgha hga hgd
            obtain ⟨p1, p2⟩ := pt
            simp only [] at x0 e1 e2
            have kR4 := cells_at R4.out
            go_wp2_with fail
            refine (StepModule_slicer _ _ _ xs zs 0 p1 p2 HO4.out HV4.out HT.out HL.out).mono ?_
            rintro e w8' ⟨a8, c8, a9, c9, rfl, hO, hV, hG⟩
            rw [EY.out, EC.out, HL.out]
            clear kR4 x0 hO hV EY EC
            replace HO := hid (HO.out.chg hG fun _ _ _ h => h)
            replace HG := hid (HG.out.trans hG fun _ _ h => h)
            replace R4 := hid (hG.heap R4.out (fun h => h))
            replace HO4 := hid (HO4.out.chg hG fun _ _ _ h => h)
            replace HV4 := hid (OwnR.chg HV4.out hG fun _ _ _ h => h)
            clear hG
            have A1 := (Chg.refl (fun _ => False) w8').alloc (.cells #[.int .i64 (6), .complex .f32 0 0, .complex .f32 0 0, .float .f32 0, .slice none 0 0, .int .i64 (0), .int .i64 (0), .slice a8 xs.length c8, .slice a9 xs.length c9, .int .i64 ((k2 : Int)), .int .i64 (0)] 38)
            have R8 := hid (heap_new w8' (.cells #[.int .i64 (6), .complex .f32 0 0, .complex .f32 0 0, .float .f32 0, .slice none 0 0, .int .i64 (0), .int .i64 (0), .slice a8 xs.length c8, .slice a9 xs.length c9, .int .i64 ((k2 : Int)), .int .i64 (0)] 38))
            replace HO := hid (HO.out.chg A1 fun _ _ _ h => h)
            replace HG := hid (HG.out.trans A1 fun _ _ h => h)
            replace R4 := hid (A1.heap R4.out (fun h => h))
            replace HO4 := hid (HO4.out.chg A1 fun _ _ _ h => h)
            replace HV4 := hid (OwnR.chg HV4.out A1 fun _ _ _ h => h)
            clear A1
            go_upto_region 22 with fail
            generalize w8'.alloc (.cells #[.int .i64 (6), .complex .f32 0 0, .complex .f32 0 0, .float .f32 0, .slice none 0 0, .int .i64 (0), .int .i64 (0), .slice a8 xs.length c8, .slice a9 xs.length c9, .int .i64 ((k2 : Int)), .int .i64 (0)] 38) = w9 at *
            generalize w8'.heap.size = b8 at *
            have kR8 := cells_at R8.out
            go_wp2_with fail
            go_roundw
            case rel => exact ⟨k2 + 1, by omega, by go_num, HO, HO4, HV4, R4, HG⟩
            case measure => simp [intOf]; omega
          · obtain rfl : k2 = xs.length := by omega
            have hlt2' : ¬ (xs.length : Int) < (xs.length : Int) := by omega
            go_wp2_with fail
            go_ret
            exact ⟨rfl, HG.out⟩
  · have hb1 : (1048576 : Int) < (len : Int) := by omega
    go_enter Try.func18, Try.ntmps18
    go_wp2_with fail
    go_ret
    exact ⟨rfl, Chg.refl _ _⟩
end Go.Proofs.Ytopkehknaclhlaa
