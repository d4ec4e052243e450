/- The reference tells whether a table is valid. Conditions: at most 1000 points and labels. -/
import Derived.Test.YtopkehknaclhlaaVb
import Derived.Test.YtopkehknaclhlaaFi
import Derived.Test.YtopkehknaclhlaaPd
namespace Go.Proofs.Ytopkehknaclhlaa
open Go Go.RowKit

/-- Whether a table is valid comes back. -/
def RTb (w : World) (xs : List (Nat × Nat)) (m : Nat) (e : Ending) (w' : World) : Prop :=
  ∃ b, e = .returned (.bool b) ∧ Chg (fun _ => False) w w' ∧ (b = true ↔ (xs.length = m ∧ xs.length ≤ 64 ∧ okTo xs xs.length))
theorem RTb.no {w w' : World} {xs : List (Nat × Nat)} {m : Nat} (G : Chg (fun _ => False) w w') (h : ¬ (xs.length = m ∧ xs.length ≤ 64 ∧ okTo xs xs.length)) : RTb w xs m (.returned (.bool false)) w' :=
  ⟨false, rfl, G, by simp [h]⟩

set_option maxRecDepth 100000 in
set_option maxHeartbeats 4000000 in
theorem IsTableS_calls (w : World) (s u : Value) (xs : List (Nat × Nat)) (zs : List Int) (ho : OwnC w 0 s xs) (hv : OwnN w 0 u zs) (h1 : xs.length ≤ 1000) (h2 : zs.length ≤ 1000) :
    Calls Try.prog 130 #[.agg #[s, u]] w (RTb w xs zs.length) := by
  obtain ⟨a, c, rfl⟩ := ho.form
  obtain ⟨a2, c2, rfl⟩ := hv.form
  have A1 := (Chg.refl (fun _ => False) w).alloc (.cells #[.slice a xs.length c, .slice a2 zs.length c2] 36)
  have R0 := hid (heap_new w (.cells #[.slice a xs.length c, .slice a2 zs.length c2] 36))
  have HO := hid (ho.chg A1 fun _ _ _ h => h)
  have HG := hid A1
  clear A1 ho hv
  generalize hn : xs.length = n at *
  generalize hm : zs.length = m at *
  have HN := hid hn
  clear hn hm
  go_enter Try.func130, Try.ntmps130
  go_upto_region 1 with fail
  generalize w.alloc (.cells #[.slice a n c, .slice a2 m c2] 36) = w1 at *
  have kR0 := cells_at R0.out
  by_cases hnm : n = m
  · have e1 : ((n : Int) != (m : Int)) = false := by simp [hnm]
    by_cases hn64 : n ≤ 64
    · have e2 : decide ((64 : Int) < (n : Int)) = false := by simp; omega
      have HNM := hid hnm
      have HN6 := hid hn64
      clear hnm
      go_wp2_with fail
      go_loopw [22] (fun i wr => ∃ k : Nat, k ≤ n ∧ i = .int .i64 (k : Int) ∧ Hid (okTo xs k) ∧ Hid (Chg (fun _ => False) w1 wr)) (fun i _ => n - (intOf i).toNat)
      case atStart => exact ⟨0, Nat.zero_le _, rfl, hid ⟨fun i h => by omega, fun i j h1 h2 => by omega⟩, hid (Chg.refl _ _)⟩
      case round =>
        obtain ⟨k, hk, rfl, HK, GR⟩ := hrel
        obtain ⟨wo, rfl⟩ : ∃ wo : World, wo = wr := ⟨_, rfl⟩
        clear kR0
        by_cases hlt : k < n
        · have hlt' : (k : Int) < (n : Int) := by omega
          have HOw := hid (HO.out.chg GR.out fun _ _ _ h => h)
          obtain ⟨g, cc, cur, hva, hga, hgb, hgd, hgha, hcl⟩ := HOw.out.at2 (n := n) HN.out (by omega)
          simp at hva
          obtain ⟨rfl, rfl⟩ := hva
          obtain ⟨pa, pb, hu⟩ : ∃ pa pb, xs.getD k (0, 0) = (pa, pb) := ⟨_, _, rfl⟩
          have x0 : wo.cell? ⟨g, k, none⟩ = some (.complex .f32 pa pb) := by rw [cell_at hgha, hcl k hlt, hu]; rfl
          have HU := hid hu
          have hc := fun w => l2Finite_calls w pa pb
          clear hcl hgha hu
          cases hf : finC (pa, pb)
          · rw [hf] at hc
            go_wp2_with fail
            refine (hc _).mono ?_
            rintro e w5 ⟨rfl, hG⟩
            go_wp2_with fail
            go_ret
            exact RTb.no ((HG.out.trans GR.out fun _ _ h => h).trans hG fun _ _ h => h) (fun h => by
              rw [HN.out] at h
              have h3 := h.2.2.1 k hlt
              rw [HU.out, hf] at h3
              cases h3)
          · rw [hf] at hc
            go_wp2_with fail
            refine (hc _).mono ?_
            rintro e w5 ⟨rfl, hG⟩
            have G5 := hid (GR.out.trans hG fun _ _ h => h)
            have R5 := hid (G5.out.heap R0.out (fun h => h))
            have HO5 := hid (HO.out.chg G5.out fun _ _ _ h => h)
            have HF := hid hf
            have k5 := cells_at R5.out
            clear hG hc GR HOw x0 hf
            go_wp2_with fail
            go_loop [5] (fun i => ∃ j : Nat, j ≤ k ∧ i = .int .i64 (j : Int) ∧ Hid (atTo xs (pa, pb) j)) (fun i => k - (intOf i).toNat)
            case atStart => exact ⟨0, Nat.zero_le _, rfl, hid (fun i h => by omega)⟩
            case round =>
              obtain ⟨j, hj, rfl, HJ⟩ := hrel
              by_cases hjk : j < k
              · have hjk' : (j : Int) < (k : Int) := by omega
                have hjn : (j : Int) < (n : Int) := by omega
                obtain ⟨g9, cc9, cur9, hva9, _, _, _, hgha9, hcl9⟩ := HO5.out.at2 (n := n) HN.out (by omega)
                simp at hva9
                obtain ⟨rfl, rfl⟩ := hva9
                obtain ⟨qa, qb, hv9⟩ : ∃ qa qb, xs.getD j (0, 0) = (qa, qb) := ⟨_, _, rfl⟩
                have x1 : w5.cell? ⟨g, j, none⟩ = some (.complex .f32 qa qb) := by rw [cell_at hgha9, hcl9 j (by omega), hv9]; rfl
                have HV9 := hid hv9
                clear hcl9 hgha9 hv9
                cases hA : FloatKind.f32.format.order qa pa == some .eq
                · have HE := hid (show eqC (qa, qb) (pa, pb) = false from by unfold eqC eqW; rw [hA]; rfl)
                  go_wp2_with fail
                  go_round
                  case rel => exact ⟨j + 1, by omega, by go_num, hid (fun i hi => by
                    rcases (by omega : i < j ∨ i = j) with h | h
                    · exact HJ.out i h
                    · rw [h, HV9.out]; exact HE.out)⟩
                  case measure => simp [intOf]; omega
                · cases hB : FloatKind.f32.format.order qb pb == some .eq
                  · have HE := hid (show eqC (qa, qb) (pa, pb) = false from by unfold eqC eqW; rw [hA, hB]; rfl)
                    go_wp2_with fail
                    go_round
                    case rel => exact ⟨j + 1, by omega, by go_num, hid (fun i hi => by
                      rcases (by omega : i < j ∨ i = j) with h | h
                      · exact HJ.out i h
                      · rw [h, HV9.out]; exact HE.out)⟩
                    case measure => simp [intOf]; omega
                  · have HE := hid (show eqC (qa, qb) (pa, pb) = true from by unfold eqC eqW; rw [hA, hB]; rfl)
                    go_wp2_with fail
                    go_ret
                    exact RTb.no (HG.out.trans G5.out fun _ _ h => h) (fun h => by
                      rw [HN.out] at h
                      have h3 := h.2.2.2 j k hjk hlt
                      rw [HV9.out, HU.out, HE.out] at h3
                      cases h3)
              · obtain rfl : k = j := by omega
                have hjk' : ¬ (k : Int) < (k : Int) := by omega
                have HK2 := hid (show okTo xs (k + 1) from ⟨fun i hi => by
                  rcases (by omega : i < k ∨ i = k) with h | h
                  · exact HK.out.1 i h
                  · rw [h, HU.out]; exact HF.out, fun i j h1 h2 => by
                  rcases (by omega : j < k ∨ j = k) with h | h
                  · exact HK.out.2 i j h1 h
                  · rw [h, HU.out]; exact HJ.out i (by omega)⟩)
                clear HK HJ
                go_wp2_with fail
                go_roundw
                case rel => exact ⟨k + 1, by omega, by go_num, HK2, G5⟩
                case measure => simp [intOf]; omega
        · obtain rfl : n = k := by omega
          have hlt' : ¬ (n : Int) < (n : Int) := by omega
          go_wp2_with fail
          go_ret
          exact ⟨true, rfl, HG.out.trans GR.out fun _ _ h => h, by rw [HN.out]; exact ⟨fun _ => ⟨HNM.out, HN6.out, HK.out⟩, fun _ => rfl⟩⟩
    · have e2 : decide ((64 : Int) < (n : Int)) = true := by simp; omega
      go_wp2_with fail
      go_ret
      exact RTb.no HG.out (by rw [HN.out]; omega)
  · have e1 : ((n : Int) != (m : Int)) = true := by simp; omega
    go_wp2_with fail
    go_ret
    exact RTb.no HG.out (by rw [HN.out]; omega)
end Go.Proofs.Ytopkehknaclhlaa
