/- The reference gives a room back. Conditions: the pool is valid. (Printed by gen_pi.py.) -/
import Derived.Test.YtopkehknaclhlaaPh
import Derived.Deep.DeepCutAuto
namespace Go.Proofs.Ytopkehknaclhlaa
open Go Go.RowKit

/-- A pool and true come back, or nothing and false. -/
def RPb (w : World) (r : Option (List (Nat × Nat) × List Ls)) (e : Ending) (w' : World) : Prop :=
  Chg (fun _ => False) w w' ∧ match r with
  | some r => ∃ a c a2 c2, e = .returned (.tuple #[.agg #[.slice a r.1.length c, .slice a2 r.2.length c2], .bool true]) ∧ OwnC w' w.heap.size (.slice a r.1.length c) r.1 ∧ OwnL w' w.heap.size (.slice a2 r.2.length c2) r.2
  | none => e = .returned (.tuple #[.agg #[.slice none 0 0, .slice none 0 0], .bool false])

set_option maxRecDepth 100000 in
set_option maxHeartbeats 4000000 in
theorem GiveBackS_calls (w : World) (s v : Value) (xs : List (Nat × Nat)) (ls : List Ls) (id : Nat) (ho : OwnC w 0 s xs) (hv : OwnL w 0 v ls) (hp : POk xs.length ls) :
    Calls Try.prog 144 #[.agg #[s, v], .int .i64 (id : Int)] w (RPb w (giveP xs ls id)) := by
  obtain ⟨a, c, rfl⟩ := ho.form
  obtain ⟨a2, c2, rfl⟩ := hv.form
  have n256 := hp.nle
  have m16 := hp.len
  have A1 := ((Chg.refl (fun _ => False) w).alloc (.cells #[.slice a xs.length c, .slice a2 ls.length c2] 67)).alloc (.cells #[.slice none 0 0, .slice none 0 0] 67)
  have HO := hid (ho.chg A1 fun _ _ _ h => h)
  have HV := hid (hv.chg A1 fun _ _ _ h => h)
  have R0 := hid (show ((w.alloc (.cells #[.slice a xs.length c, .slice a2 ls.length c2] 67)).alloc (.cells #[.slice none 0 0, .slice none 0 0] 67)).heap[w.heap.size]? = _ from heap_old (heap_new w _))
  have R1 := hid (show ((w.alloc (.cells #[.slice a xs.length c, .slice a2 ls.length c2] 67)).alloc (.cells #[.slice none 0 0, .slice none 0 0] 67)).heap[w.heap.size + 1]? = _ from heap_new' (w := w.alloc _) (b := w.heap.size + 1) (by simp))
  have Z1 := hid (show ((w.alloc (.cells #[.slice a xs.length c, .slice a2 ls.length c2] 67)).alloc (.cells #[.slice none 0 0, .slice none 0 0] 67)).heap.size = w.heap.size + 2 by simp)
  have GA := hid A1
  have HP := hid hp
  have hLe := hid (fun w ho hv => l3Lent_calls w (.slice a xs.length c) (.slice a2 ls.length c2) xs ls id ho hv hp)
  have hCp := hid (fun w ho hv => l3Copy_calls w (.slice a xs.length c) (.slice a2 ls.length c2) xs ls ho hv (by omega) (by omega))
  clear A1 ho hv hp
  generalize hn : xs.length = n at *
  generalize hm : ls.length = m at *
  have HN := hid hn
  have HM := hid hm
  clear hn hm
  go_enter Try.func144, Try.ntmps144
  go_wp2_with fail
  refine (hLe.out _ HO.out HV.out).mono ?_
  rintro e w2 ⟨rfl, hG2⟩
  have R0c := hid (hG2.heap R0.out (fun h => h))
  have R1c := hid (hG2.heap R1.out (fun h => h))
  have HOc := hid (HO.out.chg hG2 fun _ _ _ h => h)
  have HVc := hid (HV.out.chg hG2 fun _ _ _ h => h)
  have z2 : w.heap.size + 2 ≤ w2.heap.size := by have := Z1.out; have := hG2.size; omega
  have GW := hid (GA.out.trans hG2 fun _ _ h => h)
  clear hG2 Z1 GA R0 R1 HO HV hLe
  have kR0 := cells_at R0c.out
  have kR1 := cells_at R1c.out
  have fR1 := frees_at R1c.out
  cases hl : lentB ls id
  · have HG : Hid (giveP xs ls id = none) := by
      unfold giveP
      rw [hl]
      rfl
    clear hl
    go_wp2_with fail
    refine bodyPost_ret (results_row_tmp (by rfl) _ _ _ (w.heap.size + 1) _ (.bool false) rfl (load_pool (heap_row2 R1c.out _ _) rfl) rfl) rfl ⟨?_, ?_⟩
    · exact GW.out.trans (chg_row2 _ (w.heap.size + 1) (.slice none 0 0) (.slice none 0 0)) (fun j hj (h : j = w.heap.size + 1) => by omega)
    · rw [HG.out]
  · have HG : Hid (giveP xs ls id = some (xs, ls.set id Ls.free)) := by
      unfold giveP
      rw [hl]
      rfl
    have hid2 : id < m := by
      obtain ⟨_, _, _, h⟩ := lentB_true hl
      rw [HM.out] at h
      exact h
    clear hl
    go_wp2_with fail
    refine (hCp.out _ HOc.out HVc.out).mono ?_
    rintro e w3 ⟨a3, c3, a4, c4, rfl, hO3, hV3, hG3⟩
    rw [HN.out] at hO3
    rw [HM.out] at hV3
    rw [HN.out, HM.out]
    have zz3 := hG3.size
    have A4 := (Chg.refl (fun _ => False) w3).alloc (.cells #[.slice a3 n c3, .slice a4 m c4] 67)
    have R0d := hid (A4.heap (hG3.heap R0c.out (fun h => h)) (fun h => h))
    have R1d := hid (A4.heap (hG3.heap R1c.out (fun h => h)) (fun h => h))
    have R5 := hid (heap_new w3 (.cells #[.slice a3 n c3, .slice a4 m c4] 67))
    have HO4 := hid (hO3.chg A4 fun _ _ _ h => h)
    have HV4 := hid (hV3.chg A4 fun _ _ _ h => h)
    have HB3 := hid (fun g (h : some g = (Value.slice a3 n c3).ownBlock) => hO3.own_lt h)
    have HB4 := hid (fun g (h : some g = (Value.slice a4 m c4).ownBlock) => hV3.own_lt h)
    have GW4 := hid ((GW.out.trans hG3 fun _ _ h => h).trans A4 fun _ _ h => h)
    have z5 : w3.heap.size < (w3.alloc (.cells #[.slice a3 n c3, .slice a4 m c4] 67)).heap.size := by simp
    clear A4 hG3 hO3 hV3
    have i1 : (id : Int) < (m : Int) := by omega
    go_upto_region 4 with fail
    generalize hw4 : w3.alloc (.cells #[.slice a3 n c3, .slice a4 m c4] 67) = w4 at *
    clear hw4
    obtain ⟨g, cc, cur, hv2, hg0, hg1, hgc, hgh, l, hlk, j0, j1, j2, j3⟩ := OwnL.lease HV4.out HM.out hid2
    simp at hv2
    obtain ⟨rfl, rfl⟩ := hv2
    have fg := frees_at hgh
    have kR5 := cells_at R5.out
    have kR1d := cells_at R1d.out
    have fR1d := frees_at R1d.out
    have hB4 := HB4.out g rfl
    have n0 : g ≠ w3.heap.size := by omega
    have n1 : w3.heap.size ≠ g := by omega
    have n2 : g ≠ w.heap.size + 1 := by omega
    have n3 : w.heap.size + 1 ≠ g := by omega
    have n4 : w3.heap.size ≠ w.heap.size + 1 := by omega
    have n5 : w.heap.size + 1 ≠ w3.heap.size := by omega
    clear hlk hgh hg1
    go_wp2_with fail
    have C4 := chg_row4 w4 g (id * 4) (.int .i64 0) (.int .i64 0) (.int .i64 0) (.bool true)
    have Q1 := C4.heap R1d.out n3
    have O1 := HO4.out.chgN C4 (fun j e1 e2 => by
      subst e2
      exact apartC (by decide) HO4.out HV4.out e1 rfl)
    have V1 : OwnL ((((w4.setCell ⟨g, id * 4, none⟩ (.int .i64 0)).setCell ⟨g, id * 4 + 1, none⟩ (.int .i64 0)).setCell ⟨g, id * 4 + 2, none⟩ (.int .i64 0)).setCell ⟨g, id * 4 + 3, none⟩ (.bool true)) w2.heap.size (.slice (some ⟨g, 0, none⟩) m c4) (ls.set id Ls.free) := OwnL.put HV4.out id Ls.free (by rw [HM.out]; exact hid2)
    have CR := fun wx => chg_row2 wx (w.heap.size + 1) (.slice a3 n c3) (.slice (some ⟨g, 0, none⟩) m c4)
    refine bodyPost_ret (results_row_tmp (by rfl) _ _ _ (w.heap.size + 1) _ (.bool true) rfl (load_pool (heap_row2 Q1 _ _) rfl) rfl) rfl ⟨?_, ?_⟩
    · exact (GW4.out.trans C4 (fun j hj (h : j = g) => by omega)).trans (CR _) (fun j hj (h : j = w.heap.size + 1) => by omega)
    · rw [HG.out]
      have o1 := O1.chgN (CR _) (fun j e1 (e2 : j = w.heap.size + 1) => by have := (HB3.out _ e1).1; omega)
      have o2 := OwnR.chgN V1 (CR _) (fun j e1 (e2 : j = w.heap.size + 1) => by simp [Value.ownBlock] at e1; omega)
      exact ⟨a3, c3, some ⟨g, 0, none⟩, c4, by simp [HN.out, HM.out], by simpa [HN.out] using o1.mono (by omega), by simpa [HM.out] using OwnR.mono o2 (by omega)⟩
end Go.Proofs.Ytopkehknaclhlaa
