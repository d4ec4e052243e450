/- The program's tables: a table is one; its nearest point. Conditions: TOk. (Printed by gen_vj.py.) -/
import Derived.Test.YtopkehknaclhlaaVi
namespace Go.Proofs.Ytopkehknaclhlaa
open Go Go.RowKit

theorem OwnC.cutV {w : World} {b n c : Nat} {a : Option Addr} {xs : List (Nat × Nat)} (h : OwnC w b (.slice a n c) xs) (k : Nat) (hk : k ≤ xs.length) : OwnC w b (.slice a k c) (xs.take k) := by
  have hl : (xs.take k).length = k := by rw [List.length_take]; omega
  obtain ⟨h1, h2⟩ := h
  refine ⟨by simp, ?_⟩
  rcases h2 with ⟨h2, h3⟩ | ⟨g, cap, cur, hv, hb, hh, hc, hm, hs, ht⟩
  · injection h2 with e1 e2 e3
    subst e1 e3
    have : k = 0 := by omega
    subst this
    exact .inl ⟨rfl, hl⟩
  · injection hv with e1 e2 e3
    subst e1 e3
    refine .inr ⟨g, c, cur, by rw [hl], hb, hh, by rw [hl]; omega, hm, hs, ?_⟩
    rw [hl, List.map_take, ← ht, List.take_take, Nat.mul_one, Nat.mul_one, Nat.min_eq_left hk]
theorem place1_calls (w : World) (a b za zb B : Nat) (hb : w.heap[B]? = some (.cells #[.complex .f32 za zb] 33 (0, 0))) :
    Calls Try.prog 198 #[.complex .f32 a b, .pointer (some ⟨B, 0, none⟩)] w (fun e w' => e = .returned (.bool (eqC (a, b) (za, zb))) ∧ w = w') := by
  have kb := cells_at hb
  clear hb
  go_enter Try.func198, Try.ntmps198
  go_wp2_with fail
  refine (EqualPoints_calls _ a b za zb).mono ?_
  rintro e w1 ⟨rfl, rfl⟩
  go_wp2_with fail
  go_ret
  exact ⟨rfl, rfl⟩

set_option maxRecDepth 100000 in
set_option maxHeartbeats 2000000 in
theorem IndexFuncC_calls (w : World) (v : Value) (xs : List (Nat × Nat)) (za zb b : Nat) (hl : xs.length ≤ 1048576) (ho : OwnC w 0 v xs) (hb : w.heap[b]? = some (.cells #[.complex .f32 za zb] 33 (0, 0))) (he : ∀ j, j < xs.length → eqC (xs.getD j (0, 0)) (za, zb) = false) :
    Calls Try.prog 197 #[v, .func (Fn.func 198) #[] #[.pointer (some ⟨b, 0, none⟩)]] w (fun e w' => e = .returned (.int .i64 (-1)) ∧ w = w') := by
  obtain ⟨a, c, rfl⟩ := ho.form
  obtain ⟨n, hn⟩ : ∃ n, xs.length = n := ⟨_, rfl⟩
  have HN := hid hn
  have HO := hid ho
  have HB := hid hb
  have HE := hid he
  rw [hn] at hl ⊢
  simp only [hn] at HO
  clear hn ho hb he
  go_enter Try.func197, Try.ntmps197
  go_wp2_with fail
  go_loopw [8] (fun i wr => ∃ k : Nat, k ≤ n ∧ i = .int .i64 (k : Int) ∧ wr = w) (fun i _ => n - (intOf i).toNat)
  case atStart => exact ⟨0, by omega, rfl, rfl⟩
  case round =>
    obtain ⟨k, hk, rfl, rfl⟩ := hrel
    by_cases hlt : k < n
    · have hlt' : (k : Int) < (n : Int) := by omega
      obtain ⟨g, cc, cur, hva, hga, hgb, hgd, hgha, hcl⟩ := HO.out.at2 (n := n) HN.out (by omega)
      simp at hva
      obtain ⟨rfl, rfl⟩ := hva
      have x0 : wr.cell? ⟨g, k, none⟩ = some (.complex .f32 (xs.getD k (0, 0)).1 (xs.getD k (0, 0)).2) := by rw [cell_at hgha, hcl k hlt]; rfl
      have hc := place1_calls wr (xs.getD k (0, 0)).1 (xs.getD k (0, 0)).2 za zb b HB.out
      rw [show eqC ((xs.getD k (0, 0)).1, (xs.getD k (0, 0)).2) (za, zb) = false from HE.out k (by rw [HN.out]; exact hlt)] at hc
      clear hcl hgha
      generalize xs.getD k (0, 0) = pt at *
      go_wp2_with fail
      refine hc.mono ?_
      rintro e w1 ⟨rfl, rfl⟩
      go_wp2_with fail
      go_roundw
      case rel => exact ⟨k + 1, by omega, by go_num, by trivial⟩
      case measure => simp [intOf]; omega
    · obtain rfl : k = n := by omega
      have hlt' : ¬ (k : Int) < (k : Int) := by omega
      go_wp2
      go_ret
      exact ⟨rfl, rfl⟩

theorem place_calls (w : World) (v : Value) (xs : List (Nat × Nat)) (za zb : Nat) (hl : xs.length ≤ 1048576) (ho : OwnC w 0 v xs) (he : ∀ j, j < xs.length → eqC (xs.getD j (0, 0)) (za, zb) = false) :
    Calls Try.prog 184 #[v, .complex .f32 za zb] w (fun e w' => e = .returned (.int .i64 (-1)) ∧ Chg (fun _ => False) w w') := by
  obtain ⟨a, c, rfl⟩ := ho.form
  have HO := hid (ho.chg ((Chg.refl (fun _ => False) w).alloc (.cells #[.complex .f32 za zb] 33)) fun _ _ _ h => h)
  have HB := hid (heap_new w (.cells #[.complex .f32 za zb] 33))
  have HE := hid he
  clear ho he
  go_enter Try.func184, Try.ntmps184
  go_wp2_with fail
  refine (IndexFuncC_calls _ _ xs za zb w.heap.size hl HO.out HB.out HE.out).mono ?_
  rintro e w1 ⟨rfl, rfl⟩
  go_wp2_with fail
  go_ret
  exact ⟨rfl, (Chg.refl (fun _ => False) w).alloc _⟩

set_option maxRecDepth 100000 in
set_option maxHeartbeats 4000000 in
theorem IsTable_calls (w : World) (s v : Value) (xs : List (Nat × Nat)) (zs : List Int) (ho : OwnC w 0 s xs) (hv : OwnN w 0 v zs) (ht : TOk xs) (hl : zs.length = xs.length) :
    Calls Try.prog 152 #[.agg #[s, v]] w (fun e w' => e = .returned (.bool true) ∧ Chg (fun _ => False) w w') := by
  obtain ⟨a, c, rfl⟩ := ho.form
  obtain ⟨a2, c2, rfl⟩ := hv.form
  have n64 := ht.len
  have HT := hid ht
  have A1 := (Chg.refl (fun _ => False) w).alloc (.cells #[.slice a xs.length c, .slice a2 zs.length c2] 36)
  have HO := hid (ho.chg A1 fun _ _ _ h => h)
  have HV := hid (hv.chg A1 fun _ _ _ h => h)
  have R0 := hid (heap_new w (.cells #[.slice a xs.length c, .slice a2 zs.length c2] 36))
  have HG := hid A1
  have HL := hid hl
  clear A1 ho hv ht hl
  rw [HL.out] at R0 HV HO HG ⊢
  obtain ⟨n, hn⟩ : ∃ n, xs.length = n := ⟨_, rfl⟩
  have HN := hid hn
  rw [hn] at R0 HV HO HG n64 HL ⊢
  clear hn
  go_enter Try.func152, Try.ntmps152
  go_upto_region 1 with fail
  generalize w.alloc (.cells #[.slice a n c, .slice a2 n c2] 36) = w1 at *
  have kR0 := cells_at R0.out
  have nn : ¬ ((n : Int) != (n : Int)) = true := by simp
  have n65 : ¬ (n : Int) > 64 := by omega
  go_wp2_with fail
  go_loopw [21] (fun x wr => ∃ k : Nat, k ≤ n ∧ x = .int .i64 (k : Int) ∧ Hid (Chg (fun _ => False) w1 wr)) (fun x _ => n - (intOf x).toNat)
  case atStart => exact ⟨0, by omega, rfl, hid (Chg.refl _ _)⟩
  case round =>
    obtain ⟨k, hk, rfl, GR⟩ := hrel
    obtain ⟨w2, rfl⟩ : ∃ w2 : World, w2 = wr := ⟨_, rfl⟩
    clear kR0
    by_cases hlt : k < n
    · have hlt' : (k : Int) < (n : Int) := by omega
      have HOw := hid (HO.out.chg GR.out fun _ _ _ h => h)
      have R0w := hid (GR.out.heap R0.out (fun h => h))
      have kR0 := cells_at R0w.out
      obtain ⟨g, cc, cur, hva, hga, hgb, hgd, hgha, hcl⟩ := HOw.out.at2 (n := n) HN.out (by omega)
      simp at hva
      obtain ⟨rfl, rfl⟩ := hva
      have x0 : w2.cell? ⟨g, k, none⟩ = some (.complex .f32 (xs.getD k (0, 0)).1 (xs.getD k (0, 0)).2) := by rw [cell_at hgha, hcl k hlt]; rfl
      have HM := hid (show xs.getD k (0, 0) ∈ xs by rw [List.getD_eq_getElem?_getD, List.getElem?_eq_getElem (by rw [HN.out]; exact hlt)]; exact List.getElem_mem _)
      have hfi := isFinitePoint_calls w2 (xs.getD k (0, 0)).1 (xs.getD k (0, 0)).2 (HT.out.word _ HM.out).1 (HT.out.word _ HM.out).2
      rw [show finC ((xs.getD k (0, 0)).1, (xs.getD k (0, 0)).2) = true from HT.out.fin _ HM.out] at hfi
      have HP := hid (fun w => place_calls w (.slice (some ⟨g, 0, none⟩) k c) (xs.take k) (xs.getD k (0, 0)).1 (xs.getD k (0, 0)).2)
      have HE := hid (show ∀ j, j < (xs.take k).length → eqC ((xs.take k).getD j (0, 0)) ((xs.getD k (0, 0)).1, (xs.getD k (0, 0)).2) = false from fun j hj => by
        rw [List.length_take] at hj
        have h := HT.out.dj j k (by omega) (by rw [HN.out]; exact hlt)
        rw [show (xs.take k).getD j (0, 0) = xs.getD j (0, 0) from by rw [List.getD_eq_getElem?_getD, List.getD_eq_getElem?_getD, List.getElem?_take, if_pos (by omega)]]
        exact h)
      have HCT := hid (OwnC.cutV HOw.out k (by rw [HN.out]; exact hk))
      clear hcl hgha HM
      generalize xs.getD k (0, 0) = pt at *
      obtain ⟨p1, p2⟩ := pt
      have kc : ¬ c = 0 := by omega
      go_wp2_with fail
      refine hfi.mono ?_
      rintro e w3 ⟨rfl, rfl⟩
      go_wp2_with fail
      refine (HP.out _ (by rw [List.length_take]; omega) HCT.out HE.out).mono ?_
      rintro e w4 ⟨rfl, hG⟩
      have G4 := hid (GR.out.trans hG fun _ _ h => h)
      clear hG
      go_wp2_with fail
      go_roundw
      case rel => exact ⟨k + 1, by omega, by go_num, G4⟩
      case measure => simp [intOf]; omega
    · obtain rfl : k = n := by omega
      have hlt' : ¬ (k : Int) < (k : Int) := by omega
      go_wp2_with fail
      go_ret
      exact ⟨rfl, HG.out.trans GR.out fun _ _ h => h⟩

set_option maxRecDepth 100000 in
set_option maxHeartbeats 4000000 in
theorem NearestPoint_calls (w : World) (s v : Value) (xs : List (Nat × Nat)) (zs : List Int) (za zb : Nat) (ho : OwnC w 0 s xs) (hv : OwnN w 0 v zs) (ht : TOk xs) (hl : zs.length = xs.length) :
    Calls Try.prog 157 #[.agg #[s, v], .complex .f32 za zb] w (RNr w (nrI xs (za, zb))) := by
  obtain ⟨a, c, rfl⟩ := ho.form
  obtain ⟨a2, c2, rfl⟩ := hv.form
  have HT := hid ht
  have n64 := ht.len
  have A1 := (Chg.refl (fun _ => False) w).alloc (.cells #[.slice a xs.length c, .slice a2 zs.length c2] 36)
  have HO := hid (ho.chg A1 fun _ _ _ h => h)
  have HV := hid (hv.chg A1 fun _ _ _ h => h)
  have R0 := hid (heap_new w (.cells #[.slice a xs.length c, .slice a2 zs.length c2] 36))
  have HG := hid A1
  have HL := hid hl
  clear A1 ho hv ht hl
  go_enter Try.func157, Try.ntmps157
  go_upto_region 1 with fail
  generalize w.alloc (.cells #[.slice a xs.length c, .slice a2 zs.length c2] 36) = w1 at *
  have kR0 := cells_at R0.out
  go_wp2_with fail
  refine (IsTable_calls _ _ _ xs zs HO.out HV.out HT.out HL.out).mono ?_
  rintro e wb ⟨rfl, hG⟩
  replace R0 := hid (hG.heap R0.out (fun h => h))
  replace HO := hid (HO.out.chg hG fun _ _ _ h => h)
  replace HG := hid (HG.out.trans hG fun _ _ h => h)
  clear hG kR0 HV HL w1
  have kR0 := cells_at R0.out
  obtain ⟨w1, rfl⟩ : ∃ w1 : World, w1 = wb := ⟨_, rfl⟩
  go_wp2_with fail
  have Z := hid (show ∀ k, k < xs.length → nrTo xs (za, zb) (k + 1) = nrStep (za, zb) (nrTo xs (za, zb) k) k (xs.getD k (0, 0)) from fun _ _ => rfl)
  go_loopw [6, 7, 17] (fun vb vl vi wr => ∃ (k : Nat), k ≤ xs.length ∧ vi = .int .i64 (k : Int) ∧ vb = .int .i64 (nrTo xs (za, zb) k).1 ∧ vl = .float .f32 (nrTo xs (za, zb) k).2 ∧ Hid (Chg (fun _ => False) w1 wr)) (fun vb vl vi _ => xs.length - (intOf vi).toNat)
  case atStart => exact ⟨0, Nat.zero_le _, rfl, rfl, rfl, hid (Chg.refl _ _)⟩
  case round =>
    obtain ⟨k, hk, rfl, rfl, rfl, GR⟩ := hrel
    obtain ⟨w2, rfl⟩ : ∃ w2 : World, w2 = wr := ⟨_, rfl⟩
    by_cases hlt : k < xs.length
    · have hlt' : (k : Int) < (xs.length : Int) := by omega
      have HOw := hid (HO.out.chg GR.out fun _ _ _ h => h)
      obtain ⟨g, cc, cur, hva, hga, hgb, hgd, hgha, hcl⟩ := HOw.out.at2 (n := xs.length) rfl (by omega)
      simp at hva
      obtain ⟨rfl, rfl⟩ := hva
      have x0 : w2.cell? ⟨g, k, none⟩ = some (.complex .f32 (xs.getD k (0, 0)).1 (xs.getD k (0, 0)).2) := by rw [cell_at hgha, hcl k hlt]; rfl
      have HR := hid (nrTo_range xs (za, zb) k)
      have HS := hid (Z.out k hlt)
      have hc : ∀ w, Calls Try.prog 187 #[.complex .f32 (xs.getD k (0, 0)).1 (xs.getD k (0, 0)).2, .complex .f32 za zb] w (RDist w (xs.getD k (0, 0)) (za, zb)) := fun w => Distance_calls w _ _ _ _
      clear hcl hgha HOw
      generalize xs.getD k (0, 0) = pt at *
      obtain ⟨p1, p2⟩ := pt
      obtain ⟨best, least, hst⟩ : ∃ best least, nrTo xs (za, zb) k = (best, least) := ⟨_, _, rfl⟩
      have EST := hid hst
      rw [hst] at HR ⊢
      clear hst
      have HR2 : -1 ≤ best ∧ best < (k : Int) := HR.out
      clear HR
      go_wp2_with fail
      refine (hc _).mono ?_
      rintro e w3 ⟨d, rfl, hd, dn, rfl⟩
      have G3 := hid (GR.out.drewN dn)
      clear GR
      generalize w2.drewN dn = w3 at *
      have HD := hid hd
      clear hd
      rw [show nrTo xs (za, zb) k = (best, least) from EST.out] at HS
      clear EST
      cases hdo : dO (p1, p2) (za, zb) with
      | none =>
        have hd' : isN .f32 d = true := by have h := HD.out; rw [hdo] at h; exact h
        have e1 : ¬ FloatKind.f32.format.order d d = some .eq := by rw [order_self, hd']; simp
        have HS' := hid (show nrTo xs (za, zb) (k + 1) = (best, least) from by rw [HS.out]; unfold nrStep; rw [hdo])
        clear hd' HD hdo HS
        go_wp2_with fail
        go_roundw
        case rel => exact ⟨k + 1, by omega, by go_num, by rw [HS'.out], by rw [HS'.out], G3⟩
        case measure => simp [intOf]; omega
      | some r =>
        have hd' : d = r ∧ isN .f32 r = false := by have h := HD.out; rw [hdo] at h; exact h
        obtain ⟨rfl, hn⟩ := hd'
        have e1 : FloatKind.f32.format.order d d = some .eq := by rw [order_self, hn]; rfl
        by_cases hb : best < 0
        · have HS' := hid (show nrTo xs (za, zb) (k + 1) = ((k : Int), d) from by rw [HS.out]; unfold nrStep; rw [hdo]; exact if_pos (Or.inl hb))
          clear hn HD hdo HS
          have hb' : ¬ 0 ≤ best := by omega
          go_wp2_with fail
          go_roundw
          case rel => exact ⟨k + 1, by omega, by go_num, by rw [HS'.out], by rw [HS'.out], G3⟩
          case measure => simp [intOf]; omega
        · by_cases hl : FloatKind.f32.format.order d least = some .lt
          · have HS' := hid (show nrTo xs (za, zb) (k + 1) = ((k : Int), d) from by rw [HS.out]; unfold nrStep; rw [hdo]; exact if_pos (Or.inr (by unfold ltD; rw [hl]; rfl)))
            clear hn HD hdo HS
            have hb' : 0 ≤ best := by omega
            go_wp2_with fail
            go_roundw
            case rel => exact ⟨k + 1, by omega, by go_num, by rw [HS'.out], by rw [HS'.out], G3⟩
            case measure => simp [intOf]; omega
          · have HS' := hid (show nrTo xs (za, zb) (k + 1) = (best, least) from by rw [HS.out]; unfold nrStep; rw [hdo]; exact if_neg (by rintro (h | h); exact hb h; unfold ltD at h; exact hl (by simpa using h)))
            clear hn HD hdo HS
            have hb' : 0 ≤ best := by omega
            have hl' : (FloatKind.f32.format.order d least == some Ordering.lt) = false := by simpa using hl
            clear hl
            go_wp2_with fail
            go_roundw
            case rel => exact ⟨k + 1, by omega, by go_num, by rw [HS'.out], by rw [HS'.out], G3⟩
            case measure => simp [intOf]; omega
    · obtain rfl : k = xs.length := by omega
      have hlt' : ¬ (xs.length : Int) < (xs.length : Int) := by omega
      have NI := hid (show (nrTo xs (za, zb) xs.length).1 = nrI xs (za, zb) from rfl)
      rw [NI.out]
      clear kR0 R0 HO Z
      obtain ⟨i, hi⟩ : ∃ i, i = nrI xs (za, zb) := ⟨_, rfl⟩
      rw [← hi]
      have HI := hid hi
      clear hi NI
      by_cases h0 : 0 ≤ i
      · have hm : ¬ i < 0 := by omega
        go_wp2_with fail
        go_ret2
        exact ⟨.inl (by rw [← HI.out]; exact ⟨h0, rfl⟩), HG.out.trans GR.out fun _ _ h => h⟩
      · have hm : i < 0 := by omega
        go_wp2_with fail
        go_ret2
        exact ⟨.inr (by rw [← HI.out]; exact ⟨hm, rfl⟩), HG.out.trans GR.out fun _ _ h => h⟩
end Go.Proofs.Ytopkehknaclhlaa
