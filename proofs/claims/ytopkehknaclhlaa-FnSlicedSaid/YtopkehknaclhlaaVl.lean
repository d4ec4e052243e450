/- Slicers step. Conditions: the table is valid. (Printed by gen_vl.py.) -/
import Derived.Test.YtopkehknaclhlaaVk
namespace Go.Proofs.Ytopkehknaclhlaa
open Go Go.RowKit

/-- What a slicer gives, and the label that it shows. -/
def slY (xs : List (Nat × Nat)) (z : Nat × Nat) : Nat × Nat := if 0 ≤ nrI xs z then xs.getD (nrI xs z).toNat (0, 0) else (0, 0)
def slC (xs : List (Nat × Nat)) (zs : List Int) (z : Nat × Nat) : Int := if 0 ≤ nrI xs z then zs.getD (nrI xs z).toNat 0 else -1

set_option maxRecDepth 100000 in
set_option maxHeartbeats 4000000 in
theorem step_slicer (w : World) (b : Nat) (a : Option Addr) (c : Nat) (a2 : Option Addr) (c2 : Nat) (xs : List (Nat × Nat)) (zs : List Int) (ct : Int) (z1 z2 : Nat) (hb : w.heap[b]? = some (.cells #[.int .i64 (6), .complex .f32 0 0, .complex .f32 0 0, .float .f32 0, .slice none 0 0, .int .i64 (0), .int .i64 (0), .slice a xs.length c, .slice a2 zs.length c2, .int .i64 (ct), .int .i64 (0)] 38 (0, 0))) (ho : OwnC w 0 (.slice a xs.length c) xs) (hv : OwnN w 0 (.slice a2 zs.length c2) zs) (ht : TOk xs) (hl : zs.length = xs.length) :
    Calls Try.prog 123 #[.pointer (some ⟨b, 0, none⟩), .complex .f32 z1 z2] w (fun e w' => e = .returned (.complex .f32 (slY xs (z1, z2)).1 (slY xs (z1, z2)).2) ∧ w'.heap[b]? = some (.cells #[.int .i64 (6), .complex .f32 0 0, .complex .f32 0 0, .float .f32 0, .slice none 0 0, .int .i64 (0), .int .i64 (0), .slice a xs.length c, .slice a2 zs.length c2, .int .i64 (slC xs zs (z1, z2)), .int .i64 (0)] 38 (0, 0)) ∧ Chg (fun k => k = b) w w') := by
  have HT := hid ht
  have HL := hid hl
  have HO := hid ho
  have HV := hid hv
  have HB := hid hb
  clear ht hl ho hv hb
  by_cases h0 : 0 ≤ nrI xs (z1, z2)
  · obtain ⟨k, hk⟩ := Int.eq_ofNat_of_zero_le h0
    have hR := nrI_range xs (z1, z2)
    rw [hk] at hR
    have hlt : k < xs.length := by omega
    have hlt' : (k : Int) < (xs.length : Int) := by omega
    have hltz : (k : Int) < (zs.length : Int) := by rw [HL.out]; exact hlt'
    have EY := show slY xs (z1, z2) = xs.getD k (0, 0) from by unfold slY; rw [hk, if_pos (by omega)]; rfl
    have EC := show slC xs zs (z1, z2) = zs.getD k 0 from by unfold slC; rw [hk, if_pos (by omega)]; rfl
    have HK := hid hk
    rw [EY, EC]
    clear h0 hR hk EY EC
    have kb := cells_at HB.out
    go_enter Try.func123, Try.ntmps123
    go_wp2_with fail
    refine (NearestPoint_calls _ _ _ xs zs z1 z2 HO.out HV.out HT.out HL.out).mono ?_
    rintro e w1 ⟨hN, hG⟩
    replace HO := hid (HO.out.chg hG fun _ _ _ h => h)
    replace HV := hid (HV.out.chg hG fun _ _ _ h => h)
    replace HB := hid (hG.heap HB.out (fun h => h))
    have HG := hid hG
    clear hG kb
    have kb := cells_at HB.out
    have fb := frees_at HB.out
    rcases hN with ⟨h0, rfl⟩ | ⟨hm, rfl⟩
    rotate_left
    · rw [HK.out] at hm
      omega
    rw [HK.out]
    clear h0
    obtain ⟨g, cc, cur, hva, hga, hgb, hgd, hgha, hcl⟩ := HO.out.at2 (n := xs.length) rfl (by omega)
    simp at hva
    obtain ⟨rfl, rfl⟩ := hva
    have x0 : w1.cell? ⟨g, k, none⟩ = some (.complex .f32 (xs.getD k (0, 0)).1 (xs.getD k (0, 0)).2) := by rw [cell_at hgha, hcl k hlt]; rfl
    obtain ⟨gz, cz, curz, hv2, hg0, hg1, hgc, hgz, z, hz, hcz⟩ := OwnN.int HV.out rfl (show k < zs.length by rw [HL.out]; exact hlt)
    simp at hv2
    obtain ⟨rfl, rfl⟩ := hv2
    have EZ := hid (show zs.getD k 0 = z from by rw [List.getD_eq_getElem?_getD, hz]; rfl)
    have nbg : g ≠ b := fun e => by subst e; have h := HB.out; rw [hgha] at h; exact absurd h (by simp)
    have nbz : gz ≠ b := fun e => by subst e; have h := HB.out; rw [hgz] at h; exact absurd h (by simp)
    clear hcl hgha hgz hz
    obtain ⟨pt, hpt⟩ : ∃ pt, xs.getD k (0, 0) = pt := ⟨_, rfl⟩
    have HP := hid hpt
    rw [hpt] at x0
    clear hpt
    go_wp2_with fail
    go_ret
    rw [HP.out]
    refine ⟨rfl, ?_, (HG.out.mono fun _ _ h => h.elim).trans ((Chg.refl (fun q => q = b) w1).setCell (p := ⟨b, 9, none⟩) (.inl rfl) _) fun _ _ h => h⟩
    rw [EZ.out]
    have h := heap_set (k := 9) (v := .int .i64 z) HB.out
    simpa using h
  · have EY := show slY xs (z1, z2) = (0, 0) from by unfold slY; rw [if_neg h0]
    have EC := show slC xs zs (z1, z2) = -1 from by unfold slC; rw [if_neg h0]
    have H0 := hid h0
    rw [EY, EC]
    clear EY EC h0
    have kb := cells_at HB.out
    go_enter Try.func123, Try.ntmps123
    go_wp2_with fail
    refine (NearestPoint_calls _ _ _ xs zs z1 z2 HO.out HV.out HT.out HL.out).mono ?_
    rintro e w1 ⟨hN, hG⟩
    replace HO := hid (HO.out.chg hG fun _ _ _ h => h)
    replace HV := hid (HV.out.chg hG fun _ _ _ h => h)
    replace HB := hid (hG.heap HB.out (fun h => h))
    have HG := hid hG
    clear hG kb
    have kb := cells_at HB.out
    have fb := frees_at HB.out
    rcases hN with ⟨h0, rfl⟩ | ⟨hm, rfl⟩
    · have := H0.out
      omega
    clear hm
    go_wp2_with fail
    go_ret
    refine ⟨rfl, ?_, (HG.out.mono fun _ _ h => h.elim).trans ((Chg.refl (fun q => q = b) w1).setCell (p := ⟨b, 9, none⟩) (.inl rfl) _) fun _ _ h => h⟩
    have h := heap_set (k := 9) (v := .int .i64 (-1)) HB.out
    simpa using h

theorem OwnC.notT {w : World} {b g : Nat} {v : Value} {xs : List (Nat × Nat)} {cs : Array Value} {T : TypeId} {f : Nat × Nat} (h : OwnC w b v xs) (hb : w.heap[g]? = some (.cells cs T f)) (hT : T ≠ 33) (h2 : some g = v.ownBlock) : False := apTC h hb hT h2
/-- A stepped slicer, its sample and true come back. -/
def RSlS (w : World) (xs : List (Nat × Nat)) (zs : List Int) (y : Nat × Nat) (C : Int) (e : Ending) (w' : World) : Prop :=
  ∃ a c a2 c2, e = .returned (.tuple #[.agg #[.int .i64 (6), .complex .f32 0 0, .complex .f32 0 0, .float .f32 0, .slice none 0 0, .int .i64 (0), .int .i64 (0), .slice a xs.length c, .slice a2 zs.length c2, .int .i64 (C), .int .i64 (0)], .complex .f32 y.1 y.2, .bool true]) ∧ OwnC w' w.heap.size (.slice a xs.length c) xs ∧ OwnN w' w.heap.size (.slice a2 zs.length c2) zs ∧ Chg (fun _ => False) w w'
theorem RSlS.mk {w w1 W : World} {a a2 : Option Addr} {c c2 : Nat} {xs : List (Nat × Nat)} {zs : List Int} {y : Nat × Nat} {C : Int} {cs : Array Value} {f : Nat × Nat} (o2 : OwnC w1 w.heap.size (.slice a xs.length c) xs) (o3 : OwnN w1 w.heap.size (.slice a2 zs.length c2) zs) (g : Chg (fun _ => False) w w1) (hF : w1.heap[w.heap.size + 1]? = some (.cells cs 38 f)) (CR : Chg (fun k => k = w.heap.size + 1) w1 W) :
    RSlS w xs zs y C (.returned (.tuple #[.agg #[.int .i64 (6), .complex .f32 0 0, .complex .f32 0 0, .float .f32 0, .slice none 0 0, .int .i64 (0), .int .i64 (0), .slice a xs.length c, .slice a2 zs.length c2, .int .i64 (C), .int .i64 (0)], .complex .f32 y.1 y.2, .bool true])) W :=
  ⟨a, c, a2, c2, rfl, o2.chgN CR (fun q h1 (e : q = w.heap.size + 1) => by subst e; exact apTC o2 hF (by decide) h1), OwnR.chgN o3 CR (fun q h1 (e : q = w.heap.size + 1) => by subst e; exact apT o3 hF (by decide) h1), g.trans CR fun k hk e => by omega⟩

set_option maxRecDepth 100000 in
set_option maxHeartbeats 4000000 in
theorem StepModule_slicer (w : World) (s v : Value) (xs : List (Nat × Nat)) (zs : List Int) (ct : Int) (z1 z2 : Nat) (ho : OwnC w 0 s xs) (hv : OwnN w 0 v zs) (ht : TOk xs) (hl : zs.length = xs.length) :
    Calls Try.prog 66 #[.agg #[.int .i64 (6), .complex .f32 0 0, .complex .f32 0 0, .float .f32 0, .slice none 0 0, .int .i64 (0), .int .i64 (0), s, v, .int .i64 (ct), .int .i64 (0)], .complex .f32 z1 z2] w (RSlS w xs zs (slY xs (z1, z2)) (slC xs zs (z1, z2))) := by
  obtain ⟨a, c, rfl⟩ := ho.form
  obtain ⟨a2, c2, rfl⟩ := hv.form
  have n64 := ht.len
  have HO := hid ho
  have HV := hid hv
  have HT := hid ht
  have HL := hid hl
  clear ho hv ht hl
  have g0 : Chg (fun _ => False) w _ := ((Chg.refl (fun _ => False) w).alloc (.cells #[.int .i64 (6), .complex .f32 0 0, .complex .f32 0 0, .float .f32 0, .slice none 0 0, .int .i64 (0), .int .i64 (0), .slice a xs.length c, .slice a2 zs.length c2, .int .i64 (ct), .int .i64 (0)] 38)).alloc (.cells #[.int .i64 (0), .complex .f32 0 0, .complex .f32 0 0, .float .f32 0, .slice none 0 0, .int .i64 (0), .int .i64 (0), .slice none 0 0, .slice none 0 0, .int .i64 (0), .int .i64 (0)] 38)
  have z0 : ((w.alloc (.cells #[.int .i64 (6), .complex .f32 0 0, .complex .f32 0 0, .float .f32 0, .slice none 0 0, .int .i64 (0), .int .i64 (0), .slice a xs.length c, .slice a2 zs.length c2, .int .i64 (ct), .int .i64 (0)] 38)).alloc (.cells #[.int .i64 (0), .complex .f32 0 0, .complex .f32 0 0, .float .f32 0, .slice none 0 0, .int .i64 (0), .int .i64 (0), .slice none 0 0, .slice none 0 0, .int .i64 (0), .int .i64 (0)] 38)).heap.size = w.heap.size + 2 := by simp
  go_enter Try.func66, Try.ntmps66
  go_wp2_with fail
  refine (IsModule_slicer _ _ _ xs zs ct (HO.out.chg g0 fun _ _ _ h => h) (HV.out.chg g0 fun _ _ _ h => h) HT.out HL.out).mono ?_
  rintro e w1 ⟨rfl, g1⟩
  have B1 := g1.heap (heap_old (heap_new w _)) id
  have F1 := hid (g1.heap (heap_new' (w := w.alloc _) (b := w.heap.size + 1) (by simp)) id)
  have k1 := cells_at B1
  have lz1 := g1.size
  rw [z0] at lz1
  have G1 := hid (g0.trans g1 fun _ _ h => h)
  clear B1 g0 g1 z0
  go_wp2_with fail
  refine (copyModule_calls _ 6 0 0 0 0 0 _ 0 0 _ _ ct 0 [] xs zs (by decide) (by omega) (by rw [HL.out]; omega) (OwnC.nil _ _) (HO.out.chg G1.out fun _ _ _ h => h) (HV.out.toI.chg G1.out fun _ _ _ h => h)).mono ?_
  rintro e w2 ⟨b1, d1, b2, d2, b3, d3, rfl, o1, o2, o3, m1, m2, m3, g2⟩
  obtain ⟨rfl, rfl⟩ := m1 rfl
  clear o1 m1 m2 m3
  have O2 := hid (o2.mono (show w.heap.size ≤ _ by omega))
  have O3 := hid (OwnR.mono o3.toN (show w.heap.size ≤ _ by omega))
  have G2 := hid (G1.out.trans g2 fun _ _ h => h)
  have F2 := hid (g2.heap F1.out id)
  have lz2 := g2.size
  clear k1 F1 G1 g2 o2 o3 HO HV
  have A3 := (Chg.refl (fun _ => False) w2).alloc (.cells #[.int .i64 (6), .complex .f32 0 0, .complex .f32 0 0, .float .f32 0, .slice none 0 0, .int .i64 (0), .int .i64 (0), .slice b2 xs.length d2, .slice b3 zs.length d3, .int .i64 (ct), .int .i64 (0)] 38)
  have N3 := hid (heap_new w2 (.cells #[.int .i64 (6), .complex .f32 0 0, .complex .f32 0 0, .float .f32 0, .slice none 0 0, .int .i64 (0), .int .i64 (0), .slice b2 xs.length d2, .slice b3 zs.length d3, .int .i64 (ct), .int .i64 (0)] 38))
  have F3 := hid (A3.heap F2.out id)
  have G3 := hid (G2.out.trans A3 fun _ _ h => h)
  have P2 := hid (O2.out.chg A3 fun _ _ _ h => h)
  have P3 := hid (OwnR.chg O3.out A3 fun _ _ _ h => h)
  have lz3 : (w2.alloc (.cells #[.int .i64 (6), .complex .f32 0 0, .complex .f32 0 0, .float .f32 0, .slice none 0 0, .int .i64 (0), .int .i64 (0), .slice b2 xs.length d2, .slice b3 zs.length d3, .int .i64 (ct), .int .i64 (0)] 38)).heap.size = w2.heap.size + 1 := by simp
  clear F2 G2 A3 O2 O3
  go_wp2_with fail
  refine (step_slicer _ _ _ _ _ _ xs zs ct z1 z2 N3.out (P2.out.mono (Nat.zero_le _)) (OwnR.mono P3.out (Nat.zero_le _)) HT.out HL.out).mono ?_
  rintro e w4 ⟨rfl, m4, g4⟩
  have F4 := hid (g4.heap F3.out (by omega))
  have M4 := hid m4
  have k4 := cells_at M4.out
  have f4 := frees_at F4.out
  have k5 := cells_at F4.out
  have G4 := hid (G3.out.trans g4 fun k hk (e : k = w2.heap.size) => by omega)
  have Q2 := hid (P2.out.chgN g4 (fun q h1 (e : q = w2.heap.size) => by subst e; exact OwnC.notT P2.out N3.out (by decide) h1))
  have Q3 := hid (OwnR.chgN P3.out g4 (fun q h1 (e : q = w2.heap.size) => by subst e; exact apT P3.out N3.out (by decide) h1))
  clear F3 m4 N3 P2 P3 G3 g4
  go_wp2_with fail
  refine bodyPost_ret (results_row_tmp2 (by rfl) _ _ _ (w.heap.size + 1) _ (.complex .f32 (slY xs (z1, z2)).1 (slY xs (z1, z2)).2) (.bool true) rfl (load_mod (heap_row11 F4.out _ _ _ _ _ _ _ _ _ _ _) rfl) rfl rfl) rfl ?_
  refine RSlS.mk Q2.out Q3.out G4.out F4.out ?_
  repeat (first | (with_reducible exact Chg.refl _ _) | (with_reducible refine Chg.setCell ?_ ?_ _; rotate_left; exact .inl rfl))
end Go.Proofs.Ytopkehknaclhlaa
