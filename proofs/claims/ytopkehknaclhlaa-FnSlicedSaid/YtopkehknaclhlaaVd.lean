/- The reference copies a table, and finds a point in it. Conditions: at most 1000 points and labels. (Printed by gen_vd.py.) -/
import Derived.Test.YtopkehknaclhlaaVc
import Derived.Test.YtopkehknaclhlaaPc
namespace Go.Proofs.Ytopkehknaclhlaa
open Go Go.RowKit

/-- A table comes back, in blocks of its own. -/
def RTbl (w : World) (xs : List (Nat × Nat)) (ls : List Int) (e : Ending) (w' : World) : Prop :=
  ∃ a c a2 c2, e = .returned (.agg #[.slice a xs.length c, .slice a2 ls.length c2]) ∧ OwnC w' w.heap.size (.slice a xs.length c) xs ∧ OwnN w' w.heap.size (.slice a2 ls.length c2) ls ∧ Chg (fun _ => False) w w'

set_option maxRecDepth 100000 in
set_option maxHeartbeats 4000000 in
theorem l2Copy_calls (w : World) (s v : Value) (xs : List (Nat × Nat)) (ls : List Int) (ho : OwnC w 0 s xs) (hv : OwnN w 0 v ls) (hx : xs.length ≤ 1000) (hl : ls.length ≤ 1000) :
    Calls Try.prog 188 #[.agg #[s, v]] w (RTbl w xs ls) := by
  obtain ⟨a, c, rfl⟩ := ho.form
  obtain ⟨a2, c2, rfl⟩ := hv.form
  generalize hn : xs.length = n at *
  generalize hm : ls.length = m at *
  have HO := hid ho
  have HV := hid hv
  have HN := hid hn
  have HM := hid hm
  clear ho hv hn hm
  go_enter Try.func188, Try.ntmps188
  have GW := hid ((((Chg.refl (fun _ => False) w).alloc (.cells #[.slice a n c, .slice a2 m c2] 36)).alloc (.cells #[.slice none 0 0, .slice none 0 0] 36)).drew)
  have FW0 := hid (show (((w.alloc (.cells #[.slice a n c, .slice a2 m c2] 36)).alloc (.cells #[.slice none 0 0, .slice none 0 0] 36)).drew).heap[w.heap.size]? = _ from heap_old (heap_new w _))
  have FW1 := hid (show (((w.alloc (.cells #[.slice a n c, .slice a2 m c2] 36)).alloc (.cells #[.slice none 0 0, .slice none 0 0] 36)).drew).heap[w.heap.size + 1]? = _ from heap_new' (w := w.alloc _) (b := w.heap.size + 1) (by simp))
  have LW := hid (show (((w.alloc (.cells #[.slice a n c, .slice a2 m c2] 36)).alloc (.cells #[.slice none 0 0, .slice none 0 0] 36)).drew).heap.size = w.heap.size + 2 by simp)
  have LA := fun x : World => OwnC.lit x [] 33 rfl (by simp) (Nat.le_refl x.heap.size) #[] rfl
  have LB := fun x : World => OwnR.lit encN x [] (by simp) (Nat.le_refl x.heap.size) #[] 3 rfl rfl
  have A1 := hid (show OwnC (((w.alloc (.cells #[.slice a n c, .slice a2 m c2] 36)).alloc (.cells #[.slice none 0 0, .slice none 0 0] 36)).drew.alloc (.cells #[] 33)) (w.heap.size + 2) (.slice (some ⟨w.heap.size + 2, 0, none⟩) 0 0) [] by have h := LA ((w.alloc (.cells #[.slice a n c, .slice a2 m c2] 36)).alloc (.cells #[.slice none 0 0, .slice none 0 0] 36)).drew; rw [LW.out] at h; exact h)
  have A2 := hid (show OwnC ((((w.alloc (.cells #[.slice a n c, .slice a2 m c2] 36)).alloc (.cells #[.slice none 0 0, .slice none 0 0] 36)).drew.alloc (.cells #[] 33)).alloc (.cells #[] 3)) (w.heap.size + 2) (.slice (some ⟨w.heap.size + 2, 0, none⟩) 0 0) [] from A1.out.chg ((Chg.refl (fun _ => False) _).alloc _) (fun _ _ _ h => h))
  have B2 := hid (show OwnN ((((w.alloc (.cells #[.slice a n c, .slice a2 m c2] 36)).alloc (.cells #[.slice none 0 0, .slice none 0 0] 36)).drew.alloc (.cells #[] 33)).alloc (.cells #[] 3)) (w.heap.size + 2) (.slice (some ⟨w.heap.size + 3, 0, none⟩) 0 0) [] by have h := LB (((w.alloc (.cells #[.slice a n c, .slice a2 m c2] 36)).alloc (.cells #[.slice none 0 0, .slice none 0 0] 36)).drew.alloc (.cells #[] 33)); rw [show (((w.alloc (.cells #[.slice a n c, .slice a2 m c2] 36)).alloc (.cells #[.slice none 0 0, .slice none 0 0] 36)).drew.alloc (.cells #[] 33)).heap.size = w.heap.size + 3 by simp] at h; exact h.mono (by omega))
  have B3 := hid (show OwnN ((((w.alloc (.cells #[.slice a n c, .slice a2 m c2] 36)).alloc (.cells #[.slice none 0 0, .slice none 0 0] 36)).drew.alloc (.cells #[] 3)).alloc (.cells #[] 33)) (w.heap.size + 2) (.slice (some ⟨w.heap.size + 2, 0, none⟩) 0 0) [] by have h := LB ((w.alloc (.cells #[.slice a n c, .slice a2 m c2] 36)).alloc (.cells #[.slice none 0 0, .slice none 0 0] 36)).drew; rw [LW.out] at h; exact h.chg ((Chg.refl (fun _ => False) _).alloc _) (fun _ _ _ h => h))
  have A3 := hid (show OwnC ((((w.alloc (.cells #[.slice a n c, .slice a2 m c2] 36)).alloc (.cells #[.slice none 0 0, .slice none 0 0] 36)).drew.alloc (.cells #[] 3)).alloc (.cells #[] 33)) (w.heap.size + 2) (.slice (some ⟨w.heap.size + 3, 0, none⟩) 0 0) [] by have h := LA (((w.alloc (.cells #[.slice a n c, .slice a2 m c2] 36)).alloc (.cells #[.slice none 0 0, .slice none 0 0] 36)).drew.alloc (.cells #[] 3)); rw [show (((w.alloc (.cells #[.slice a n c, .slice a2 m c2] 36)).alloc (.cells #[.slice none 0 0, .slice none 0 0] 36)).drew.alloc (.cells #[] 3)).heap.size = w.heap.size + 3 by simp] at h; exact h.mono (by omega))
  have NA := hid (Chg.refl (fun _ => False) ((w.alloc (.cells #[.slice a n c, .slice a2 m c2] 36)).alloc (.cells #[.slice none 0 0, .slice none 0 0] 36)).drew |>.alloc (.cells #[] 33))
  have NAB := hid ((Chg.refl (fun _ => False) ((w.alloc (.cells #[.slice a n c, .slice a2 m c2] 36)).alloc (.cells #[.slice none 0 0, .slice none 0 0] 36)).drew |>.alloc (.cells #[] 33)).alloc (.cells #[] 3))
  have NBA := hid ((Chg.refl (fun _ => False) ((w.alloc (.cells #[.slice a n c, .slice a2 m c2] 36)).alloc (.cells #[.slice none 0 0, .slice none 0 0] 36)).drew |>.alloc (.cells #[] 3)).alloc (.cells #[] 33))
  clear LA LB
  go_wp2_with fail
  go_region_held3 (fun w' => w'.cell? ⟨w.heap.size, 0, none⟩ = some (.slice a n c) ∧ w'.cell? ⟨w.heap.size, 1, none⟩ = some (.slice a2 m c2)) (first | (exact ⟨cell_at F0d.out, cell_at F0d.out⟩) | (exact ⟨cell_at F0c.out, cell_at F0c.out⟩) | go_keep) (first | (refine step_app rfl _ _ (by rfl) (w.heap.size + 2) _ _ [] xs (by rfl) A1.out (by rfl) (HO.out.chg (GW.out.trans NA.out fun _ _ h => h) fun _ _ _ h => h) (by rw [HN.out]; simp; omega) (by simp) ?_; intro a' c' w' hO hG; have G3 := hid (GW.out.trans (NA.out.trans hG fun k hk e => by have lw := LW.out; simp [Value.ownBlock] at e <;> omega) fun k hk e => e); have F0c := hid (hG.heap (NA.out.heap FW0.out id) (fun e => by simp [Value.ownBlock] at e <;> omega)); have F1c := hid (hG.heap (NA.out.heap FW1.out id) (fun e => by simp [Value.ownBlock] at e <;> omega)); have hO3 := hid (show OwnC w' (w.heap.size + 2) (.slice a' n c') xs by have h := hO; rw [HN.out] at h; simpa using h); have F0 := hid (heap_old (o' := .cells #[] 3) F0c.out); have F1 := hid (heap_old (o' := .cells #[] 3) F1c.out); have H1 := hid (OwnR.lit encN w' [] (by simp) (base := w.heap.size + 2) (by have := hO3.out; have := hG.size; simp at this; omega) #[] 3 rfl rfl); have G1 := hid (G3.out.alloc (.cells #[] 3)); have hO4 := hid (hO3.out.chg ((Chg.refl (fun _ => False) w').alloc (.cells #[] 3)) fun _ _ _ h => h)) | (refine step_app rfl _ _ (by rfl) (w.heap.size + 2) _ _ [] xs (by rfl) A2.out (by rfl) (HO.out.chg (GW.out.trans NAB.out fun _ _ h => h) fun _ _ _ h => h) (by rw [HN.out]; simp; omega) (by simp) ?_; intro a' c' w' hO hG; have G3 := hid (GW.out.trans (NAB.out.trans hG fun k hk e => by have lw := LW.out; simp [Value.ownBlock] at e <;> omega) fun k hk e => e); have F0c := hid (hG.heap (NAB.out.heap FW0.out id) (fun e => by simp [Value.ownBlock] at e <;> omega)); have F1c := hid (hG.heap (NAB.out.heap FW1.out id) (fun e => by simp [Value.ownBlock] at e <;> omega)); have hO3 := hid (show OwnC w' (w.heap.size + 2) (.slice a' n c') xs by have h := hO; rw [HN.out] at h; simpa using h); have F0 := hid F0c.out; have F1 := hid F1c.out; have H1 := hid (B2.out.chgN hG (fun g e1 e2 => by simp [Value.ownBlock] at e1 e2 <;> omega)); have G1 := hid G3.out; have hO4 := hid hO3.out) | (refine step_app rfl _ _ (by rfl) (w.heap.size + 2) _ _ [] xs (by rfl) A3.out (by rfl) (HO.out.chg (GW.out.trans NBA.out fun _ _ h => h) fun _ _ _ h => h) (by rw [HN.out]; simp; omega) (by simp) ?_; intro a' c' w' hO hG; have G3 := hid (GW.out.trans (NBA.out.trans hG fun k hk e => by have lw := LW.out; simp [Value.ownBlock] at e <;> omega) fun k hk e => e); have F0c := hid (hG.heap (NBA.out.heap FW0.out id) (fun e => by simp [Value.ownBlock] at e <;> omega)); have F1c := hid (hG.heap (NBA.out.heap FW1.out id) (fun e => by simp [Value.ownBlock] at e <;> omega)); have hO3 := hid (show OwnC w' (w.heap.size + 2) (.slice a' n c') xs by have h := hO; rw [HN.out] at h; simpa using h); have F0 := hid F0c.out; have F1 := hid F1c.out; have H1 := hid (B3.out.chgN hG (fun g e1 e2 => by simp [Value.ownBlock] at e1 e2 <;> omega)); have G1 := hid G3.out; have hO4 := hid hO3.out) | (refine step_appR encN rfl _ _ (by rfl) (w.heap.size + 2) _ _ [] ls (by rfl) H1.out (by rfl) (HV.out.chg G1.out fun _ _ _ h => h) (by rw [HM.out]; simp; omega) (by have := hG.size; simp at this; simp; omega) ?_; intro a3 c3 w3 hO2 hG2; have zz := hG.size; simp at zz; have F0d := hid (hG2.heap F0.out (fun e => by simp [Value.ownBlock] at e <;> omega)); have F1d := hid (hG2.heap F1.out (fun e => by simp [Value.ownBlock] at e <;> omega)); have k2 := cells_at F1d.out; have hO5 := hid (hO4.out.chgN hG2 (fun g e1 e2 => apartC (by decide) hO4.out H1.out e1 e2)); have hO6 := hid (show OwnN w3 (w.heap.size + 2) (.slice a3 m c3) ls by have h := hO2; rw [List.nil_append] at h; rw [← HM.out]; simpa using h); have G5 := hid (G1.out.trans hG2 fun k hk e => by have lw := LW.out; have z9 := G1.out.size; have z8 := G3.out.size; simp [Value.ownBlock] at e z9 z8 <;> omega); have f2 := frees_at F1d.out))
  all_goals
    go_wp2_with fail
    refine bodyPost_ret (v := .agg #[.slice a' xs.length c', .slice a3 ls.length c3]) (by simp [results, Try.results188, go_sem, k2]) rfl ?_
    have g3 := ((Chg.refl (fun k => k = w.heap.size + 1) w3).setCell (p := ⟨w.heap.size + 1, 0, none⟩) (.inl rfl) (.slice a' xs.length c')).setCell (p := ⟨w.heap.size + 1, 1, none⟩) (.inl rfl) (.slice a3 ls.length c3)
    refine ⟨a', c', a3, c3, rfl, ?_, ?_, ?_⟩
    · have h5 := hO5.out; rw [← HN.out] at h5; exact (h5.chg g3 fun k hk _ (e : k = w.heap.size + 1) => by omega).mono (Nat.le_add_right _ _)
    · have h6 := hO6.out; rw [← HM.out] at h6; exact (h6.chg g3 fun k hk _ (e : k = w.heap.size + 1) => by omega).mono (Nat.le_add_right _ _)
    · exact G5.out.trans g3 (fun k hk e => by omega)

/-- Where a point is (-1: nowhere) comes back. -/
def RAtI (w : World) (xs : List (Nat × Nat)) (z : Nat × Nat) (e : Ending) (w' : World) : Prop :=
  Chg (fun _ => False) w w' ∧ ((e = .returned (.int .i64 (-1)) ∧ atTo xs z xs.length) ∨ ∃ i : Nat, i < xs.length ∧ e = .returned (.int .i64 (i : Int)) ∧ eqC (xs.getD i (0, 0)) z = true)
set_option maxRecDepth 100000 in
set_option maxHeartbeats 4000000 in
theorem l2At_calls (w : World) (s v : Value) (xs : List (Nat × Nat)) (zs : List Int) (pa pb : Nat) (ho : OwnC w 0 s xs) (hv : OwnN w 0 v zs) (h1 : xs.length ≤ 1000) :
    Calls Try.prog 189 #[.agg #[s, v], .complex .f32 pa pb] w (RAtI w xs (pa, pb)) := by
  obtain ⟨a, c, rfl⟩ := ho.form
  obtain ⟨a2, c2, rfl⟩ := hv.form
  have A1 := (Chg.refl (fun _ => False) w).alloc (.cells #[.slice a xs.length c, .slice a2 zs.length c2] 36)
  have R0 := hid (heap_new w (.cells #[.slice a xs.length c, .slice a2 zs.length c2] 36))
  have HO := hid (ho.chg A1 fun _ _ _ h => h)
  have HG := hid A1
  clear A1 ho hv
  generalize hn : xs.length = n at *
  generalize hm : zs.length = m at *
  have HN := hid hn
  clear hn hm
  go_enter Try.func189, Try.ntmps189
  go_upto_region 1 with fail
  generalize w.alloc (.cells #[.slice a n c, .slice a2 m c2] 36) = w1 at *
  have kR0 := cells_at R0.out
  go_wp2_with fail
  go_loop [10] (fun i => ∃ j : Nat, j ≤ n ∧ i = .int .i64 (j : Int) ∧ Hid (atTo xs (pa, pb) j)) (fun i => n - (intOf i).toNat)
  case atStart => exact ⟨0, Nat.zero_le _, rfl, hid (fun i h => by omega)⟩
  case round =>
    obtain ⟨j, hj, rfl, HJ⟩ := hrel
    clear kR0
    by_cases hlt : j < n
    · have hlt' : (j : Int) < (n : Int) := by omega
      obtain ⟨g, cc, cur, hva, hga, hgb, hgd, hgha, hcl⟩ := HO.out.at2 (n := n) HN.out (by omega)
      simp at hva
      obtain ⟨rfl, rfl⟩ := hva
      obtain ⟨qa, qb, hq⟩ : ∃ qa qb, xs.getD j (0, 0) = (qa, qb) := ⟨_, _, rfl⟩
      have x0 : w1.cell? ⟨g, j, none⟩ = some (.complex .f32 qa qb) := by rw [cell_at hgha, hcl j hlt, hq]; rfl
      have HQ := hid hq
      clear hcl hgha hq
      cases hA : FloatKind.f32.format.order qa pa == some .eq
      · have HE := hid (show eqC (qa, qb) (pa, pb) = false from by unfold eqC eqW; rw [hA]; rfl)
        go_wp2_with fail
        go_round
        case rel => exact ⟨j + 1, by omega, by go_num, hid (fun i hi => by
          rcases (by omega : i < j ∨ i = j) with h | h
          · exact HJ.out i h
          · rw [h, HQ.out]; exact HE.out)⟩
        case measure => simp [intOf]; omega
      · cases hB : FloatKind.f32.format.order qb pb == some .eq
        · have HE := hid (show eqC (qa, qb) (pa, pb) = false from by unfold eqC eqW; rw [hA, hB]; rfl)
          go_wp2_with fail
          go_round
          case rel => exact ⟨j + 1, by omega, by go_num, hid (fun i hi => by
            rcases (by omega : i < j ∨ i = j) with h | h
            · exact HJ.out i h
            · rw [h, HQ.out]; exact HE.out)⟩
          case measure => simp [intOf]; omega
        · have HE := hid (show eqC (qa, qb) (pa, pb) = true from by unfold eqC eqW; rw [hA, hB]; rfl)
          go_wp2_with fail
          go_ret
          exact ⟨HG.out, .inr ⟨j, by rw [HN.out]; exact hlt, rfl, by rw [HQ.out]; exact HE.out⟩⟩
    · obtain rfl : n = j := by omega
      have hlt' : ¬ (n : Int) < (n : Int) := by omega
      go_wp2_with fail
      go_ret
      exact ⟨HG.out, .inl ⟨rfl, by rw [HN.out]; exact HJ.out⟩⟩
end Go.Proofs.Ytopkehknaclhlaa
