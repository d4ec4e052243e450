/- The reference's nearest point. Conditions: at most 64 points. (Printed by gen_vi.py.) -/
import Derived.Test.YtopkehknaclhlaaVh
namespace Go.Proofs.Ytopkehknaclhlaa
open Go Go.RowKit

set_option maxRecDepth 100000 in
set_option maxHeartbeats 4000000 in
theorem l2Nearest_calls (w : World) (s v : Value) (xs : List (Nat × Nat)) (zs : List Int) (za zb : Nat) (ho : OwnC w 0 s xs) (hv : OwnN w 0 v zs) (h64 : xs.length ≤ 64) :
    Calls Try.prog 131 #[.agg #[s, v], .complex .f32 za zb] w (fun e w' => e = .returned (.int .i64 (nrI xs (za, zb))) ∧ Chg (fun _ => False) w w') := by
  obtain ⟨a, c, rfl⟩ := ho.form
  obtain ⟨a2, c2, rfl⟩ := hv.form
  have A1 := (Chg.refl (fun _ => False) w).alloc (.cells #[.slice a xs.length c, .slice a2 zs.length c2] 36)
  have HO := hid (ho.chg A1 fun _ _ _ h => h)
  have R0 := hid (heap_new w (.cells #[.slice a xs.length c, .slice a2 zs.length c2] 36))
  have HG := hid A1
  clear A1 ho hv
  go_enter Try.func131, Try.ntmps131
  go_upto_region 1 with fail
  generalize w.alloc (.cells #[.slice a xs.length c, .slice a2 zs.length c2] 36) = w1 at *
  have kR0 := cells_at R0.out
  go_wp2_with fail
  have Z := hid (show ∀ k, k < xs.length → nrTo xs (za, zb) (k + 1) = nrStep (za, zb) (nrTo xs (za, zb) k) k (xs.getD k (0, 0)) from fun _ _ => rfl)
  go_loopw [5, 6, 13] (fun vb vl vi wr => ∃ (k : Nat), k ≤ xs.length ∧ vi = .int .i64 (k : Int) ∧ vb = .int .i64 (nrTo xs (za, zb) k).1 ∧ vl = .float .f32 (nrTo xs (za, zb) k).2 ∧ Hid (Chg (fun _ => False) w1 wr)) (fun vb vl vi _ => xs.length - (intOf vi).toNat)
  case atStart => exact ⟨0, Nat.zero_le _, rfl, rfl, rfl, hid (Chg.refl _ _)⟩
  case round =>
    obtain ⟨k, hk, rfl, rfl, rfl, GR⟩ := hrel
    obtain ⟨w2, rfl⟩ : ∃ w2 : World, w2 = wr := ⟨_, rfl⟩
    by_cases hlt : k < xs.length
    · have hlt' : (k : Int) < (xs.length : Int) := by omega
      have HOw := hid (HO.out.chg GR.out fun _ _ _ h => h)
      obtain ⟨g, cc, cur, hva, hga, hgb, hgd, hgha, hcl⟩ := HOw.out.at2 (n := xs.length) rfl (by omega)
      simp at hva
      obtain ⟨rfl, rfl⟩ := hva
      have x0 : w2.cell? ⟨g, k, none⟩ = some (.complex .f32 (xs.getD k (0, 0)).1 (xs.getD k (0, 0)).2) := by rw [cell_at hgha, hcl k hlt]; rfl
      have HR := hid (nrTo_range xs (za, zb) k)
      have HS := hid (Z.out k hlt)
      have hc : ∀ w, Calls Try.prog 166 #[.complex .f32 (xs.getD k (0, 0)).1 (xs.getD k (0, 0)).2, .complex .f32 za zb] w (RDist w (xs.getD k (0, 0)) (za, zb)) := fun w => DistanceS_calls w _ _ _ _
      clear hcl hgha HOw
      generalize xs.getD k (0, 0) = pt at *
      obtain ⟨p1, p2⟩ := pt
      obtain ⟨best, least, hst⟩ : ∃ best least, nrTo xs (za, zb) k = (best, least) := ⟨_, _, rfl⟩
      have EST := hid hst
      rw [hst] at HR ⊢
      clear hst
      have HR2 : -1 ≤ best ∧ best < (k : Int) := HR.out
      clear HR
      go_wp2_with fail
      refine (hc _).mono ?_
      rintro e w3 ⟨d, rfl, hd, dn, rfl⟩
      have G3 := hid (GR.out.drewN dn)
      clear GR
      generalize w2.drewN dn = w3 at *
      have HD := hid hd
      clear hd
      rw [show nrTo xs (za, zb) k = (best, least) from EST.out] at HS
      clear EST
      cases hdo : dO (p1, p2) (za, zb) with
      | none =>
        have hd' : isN .f32 d = true := by have h := HD.out; rw [hdo] at h; exact h
        have e1 : ¬ FloatKind.f32.format.order d d = some .eq := by rw [order_self, hd']; simp
        have HS' := hid (show nrTo xs (za, zb) (k + 1) = (best, least) from by rw [HS.out]; unfold nrStep; rw [hdo])
        clear hd' HD hdo HS
        go_wp2_with fail
        go_roundw
        case rel => exact ⟨k + 1, by omega, by go_num, by rw [HS'.out], by rw [HS'.out], G3⟩
        case measure => simp [intOf]; omega
      | some r =>
        have hd' : d = r ∧ isN .f32 r = false := by have h := HD.out; rw [hdo] at h; exact h
        obtain ⟨rfl, hn⟩ := hd'
        have e1 : FloatKind.f32.format.order d d = some .eq := by rw [order_self, hn]; rfl
        by_cases hb : best < 0
        · have HS' := hid (show nrTo xs (za, zb) (k + 1) = ((k : Int), d) from by rw [HS.out]; unfold nrStep; rw [hdo]; exact if_pos (Or.inl hb))
          clear hn HD hdo HS
          have hb' : ¬ 0 ≤ best := by omega
          go_wp2_with fail
          go_roundw
          case rel => exact ⟨k + 1, by omega, by go_num, by rw [HS'.out], by rw [HS'.out], G3⟩
          case measure => simp [intOf]; omega
        · by_cases hl : FloatKind.f32.format.order d least = some .lt
          · have HS' := hid (show nrTo xs (za, zb) (k + 1) = ((k : Int), d) from by rw [HS.out]; unfold nrStep; rw [hdo]; exact if_pos (Or.inr (by unfold ltD; rw [hl]; rfl)))
            clear hn HD hdo HS
            have hb' : 0 ≤ best := by omega
            go_wp2_with fail
            go_roundw
            case rel => exact ⟨k + 1, by omega, by go_num, by rw [HS'.out], by rw [HS'.out], G3⟩
            case measure => simp [intOf]; omega
          · have HS' := hid (show nrTo xs (za, zb) (k + 1) = (best, least) from by rw [HS.out]; unfold nrStep; rw [hdo]; exact if_neg (by rintro (h | h); exact hb h; unfold ltD at h; exact hl (by simpa using h)))
            clear hn HD hdo HS
            have hb' : 0 ≤ best := by omega
            have hl' : (FloatKind.f32.format.order d least == some Ordering.lt) = false := by simpa using hl
            clear hl
            go_wp2_with fail
            go_roundw
            case rel => exact ⟨k + 1, by omega, by go_num, by rw [HS'.out], by rw [HS'.out], G3⟩
            case measure => simp [intOf]; omega
    · obtain rfl : k = xs.length := by omega
      have hlt' : ¬ (xs.length : Int) < (xs.length : Int) := by omega
      have NI := hid (show (nrTo xs (za, zb) xs.length).1 = nrI xs (za, zb) from rfl)
      rw [NI.out]
      clear kR0 R0 HO Z
      go_wp2_with fail
      go_ret
      exact ⟨rfl, HG.out.trans GR.out fun _ _ h => h⟩

/-- The nearest point's index and whether there is one. -/
def RNr (w : World) (i : Int) (e : Ending) (w' : World) : Prop :=
  ((0 ≤ i ∧ e = .returned (.tuple #[.int .i64 i, .bool true])) ∨ (i < 0 ∧ e = .returned (.tuple #[.int .i64 0, .bool false]))) ∧ Chg (fun _ => False) w w'
set_option maxRecDepth 100000 in
set_option maxHeartbeats 4000000 in
theorem NearestPointS_calls (w : World) (s v : Value) (xs : List (Nat × Nat)) (zs : List Int) (za zb : Nat) (ho : OwnC w 0 s xs) (hv : OwnN w 0 v zs) (ht : TOk xs) (hl : zs.length = xs.length) :
    Calls Try.prog 82 #[.agg #[s, v], .complex .f32 za zb] w (RNr w (nrI xs (za, zb))) := by
  obtain ⟨a, c, rfl⟩ := ho.form
  obtain ⟨a2, c2, rfl⟩ := hv.form
  have HT := hid ht
  have n64 := ht.len
  have A1 := (Chg.refl (fun _ => False) w).alloc (.cells #[.slice a xs.length c, .slice a2 zs.length c2] 36)
  have HO := hid (ho.chg A1 fun _ _ _ h => h)
  have HV := hid (hv.chg A1 fun _ _ _ h => h)
  have R0 := hid (heap_new w (.cells #[.slice a xs.length c, .slice a2 zs.length c2] 36))
  have HG := hid A1
  have HL := hid hl
  clear A1 ho hv ht hl
  go_enter Try.func82, Try.ntmps82
  go_upto_region 1 with fail
  generalize w.alloc (.cells #[.slice a xs.length c, .slice a2 zs.length c2] 36) = w1 at *
  have kR0 := cells_at R0.out
  go_wp2_with fail
  refine (IsTableS_calls _ _ _ xs zs HO.out HV.out (by omega) (by rw [HL.out]; omega)).mono ?_
  rintro e w2 ⟨b, rfl, hG, hb⟩
  obtain rfl : b = true := hb.mpr ⟨HL.out.symm, n64, HT.out.to _ (Nat.le_refl _)⟩
  replace R0 := hid (hG.heap R0.out (fun h => h))
  replace HO := hid (HO.out.chg hG fun _ _ _ h => h)
  replace HV := hid (HV.out.chg hG fun _ _ _ h => h)
  replace HG := hid (HG.out.trans hG fun _ _ h => h)
  clear hG hb kR0
  have kR0 := cells_at R0.out
  go_wp2_with fail
  refine (l2Nearest_calls _ _ _ xs zs za zb HO.out HV.out n64).mono ?_
  rintro e w3 ⟨rfl, hG⟩
  replace HG := hid (HG.out.trans hG fun _ _ h => h)
  have HR := nrI_range xs (za, zb)
  obtain ⟨i, hi⟩ : ∃ i, i = nrI xs (za, zb) := ⟨_, rfl⟩
  rw [← hi] at HR ⊢
  have HI := hid hi
  clear hG kR0 hi
  by_cases h0 : 0 ≤ i
  · have hm : ¬ i < 0 := by omega
    go_wp2_with fail
    go_ret2
    exact ⟨.inl (by rw [← HI.out]; exact ⟨h0, rfl⟩), HG.out⟩
  · have hm : i < 0 := by omega
    go_wp2_with fail
    go_ret2
    rw [show decide (0 ≤ i) = false from decide_eq_false (by omega)]
    exact ⟨.inr (by rw [← HI.out]; exact ⟨hm, rfl⟩), HG.out⟩

/-- A table comes back. -/
def RTbl2 (w : World) (e : Ending) (w' : World) : Prop :=
  ∃ a c1 a2 c2 xs zs, e = .returned (.agg #[.slice a xs.length c1, .slice a2 xs.length c2]) ∧ TOk xs ∧ zs.length = xs.length ∧ OwnC w' w.heap.size (.slice a xs.length c1) xs ∧ OwnN w' w.heap.size (.slice a2 xs.length c2) zs ∧ Chg (fun _ => False) w w'
set_option maxRecDepth 100000 in
set_option maxHeartbeats 4000000 in
theorem MakeTable_calls (w : World) (a : Option Addr) (len cap : Nat) (hy : Bytes w w.heap.size a len cap) :
    Calls Try.prog 80 #[.slice a len cap] w (RTbl2 w) := by
  have HY := hid hy
  clear hy
  have A1 := (Chg.refl (fun _ => False) w).alloc (.cells #[.slice none 0 0, .slice none 0 0] 36)
  have R0 := hid (heap_new w (.cells #[.slice none 0 0, .slice none 0 0] 36))
  replace HY := hid (HY.out.up (by simp) A1 (fun n h1 h2 => h2))
  have HG := hid A1
  have z1 : (w.alloc (.cells #[.slice none 0 0, .slice none 0 0] 36)).heap.size = w.heap.size + 1 := by simp
  clear A1
  go_enter Try.func80, Try.ntmps80
  go_upto_region 1 with fail
  generalize w.alloc (.cells #[.slice none 0 0, .slice none 0 0] 36) = w1 at *
  go_wp2_with fail
  refine (l01New_calls _ _ _ _ HY.out).mono ?_
  rintro e w2 ⟨c, hc, rfl, hc2, g2⟩
  have HC := hid hc2
  replace R0 := hid (g2.heap R0.out (fun h => h))
  replace HG := hid (HG.out.trans g2 fun _ _ h => h)
  have z2 := g2.size
  clear hc2 g2
  go_wp2_with fail
  refine (l2Table_calls _ c HC.out).mono ?_
  rintro e w3 ⟨a, c1, a2, c2, xs, zs, rfl, hT, hL, hO, hV, g3⟩
  have HT := hid hT
  have HL := hid hL
  have HO := hid (hO.mono (show w.heap.size ≤ _ by omega))
  have HV := hid (OwnR.mono hV (show w.heap.size ≤ _ by omega))
  replace R0 := hid (g3.heap R0.out (by omega))
  replace HG := hid (HG.out.trans g3 (fun j hj (e : j = c) => by omega))
  clear hT hL hO hV g3 HC HY
  have kR0 := cells_at R0.out
  have fR0 := frees_at R0.out
  go_wp2_with fail
  refine bodyPost_ret (results_row1 (by rfl) _ _ _ w.heap.size _ rfl (load_table (heap_r2 R0.out _ _) rfl)) rfl ?_
  have CR := chg_r2 w3 w.heap.size (.slice a xs.length c1) (.slice a2 xs.length c2)
  refine ⟨a, c1, a2, c2, xs, zs, rfl, HT.out, HL.out, ?_, ?_, HG.out.trans CR (fun q hq (e : q = w.heap.size) => by omega)⟩
  · exact HO.out.chgN CR (fun q e1 (e2 : q = w.heap.size) => by subst e2; exact apTC HO.out R0.out (by decide) e1)
  · exact OwnR.chgN HV.out CR (fun q e1 (e2 : q = w.heap.size) => by subst e2; exact apT HV.out R0.out (by decide) e1)
end Go.Proofs.Ytopkehknaclhlaa
