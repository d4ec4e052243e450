/- The program tells how much of a pool is free. Conditions: the pool is valid. (Printed by gen_qe.py.) -/
import Derived.Test.YtopkehknaclhlaaQa
namespace Go.Proofs.Ytopkehknaclhlaa
open Go Go.RowKit

set_option maxRecDepth 100000 in
set_option maxHeartbeats 4000000 in
theorem FreeRoom_calls (w : World) (s v : Value) (xs : List (Nat × Nat)) (ls : List Ls) (ho : OwnC w 0 s xs) (hv : OwnL w 0 v ls) (hp : POk xs.length ls) :
    Calls Try.prog 54 #[.agg #[s, v]] w (RVal w (.tuple #[.int .i64 ((frees (cv ls) xs.length : Nat) : Int), .int .i64 ((best (cv ls) xs.length : Nat) : Int)])) := by
  obtain ⟨a, c, rfl⟩ := ho.form
  obtain ⟨a2, c2, rfl⟩ := hv.form
  have n256 := hp.nle
  have m16 := hp.len
  have A1 := ((Chg.refl (fun _ => False) w).alloc (.cells #[.slice a xs.length c, .slice a2 ls.length c2] 67))
  have HO := hid (ho.chg A1 fun _ _ _ h => h)
  have HV := hid (hv.chg A1 fun _ _ _ h => h)
  have R0 := hid (show (w.alloc (.cells #[.slice a xs.length c, .slice a2 ls.length c2] 67)).heap[w.heap.size]? = _ from heap_new w _)
  have Z1 := hid (show (w.alloc (.cells #[.slice a xs.length c, .slice a2 ls.length c2] 67)).heap.size = w.heap.size + 1 by simp)
  have GA := hid A1
  have HP := hid hp
  have hIs := hid (fun w ho hv => IsPool_calls w (.slice a xs.length c) (.slice a2 ls.length c2) xs ls ho hv hp)
  have hTk := hid (fun w ho hv => taken_calls w (.slice a xs.length c) (.slice a2 ls.length c2) xs ls ho hv hp)
  clear A1 ho hv hp
  generalize hn : xs.length = n at *
  generalize hm : ls.length = m at *
  have HN := hid hn
  have HM := hid hm
  clear hn hm
  have kR0i := cells_at R0.out
  go_enter Try.func54, Try.ntmps54
  go_wp2_with (go_at_call 106; refine (hIs.out _ HO.out HV.out).mono ?_; rintro e w1 ⟨rfl, hG⟩; have R0b := hid (hG.heap R0.out (fun h => h)); have kR0b := cells_at R0b.out; have HO1 := hid (HO.out.chg hG fun _ _ _ h => h); have HV1 := hid (HV.out.chg hG fun _ _ _ h => h); have G1 := hid hG)
  refine (hTk.out _ HO1.out HV1.out).mono ?_
  rintro e w2 ⟨b, cb, rfl, hT, hG2⟩
  have HT := hid hT
  have GW := hid ((GA.out.trans G1.out fun _ _ h => h).trans hG2 fun _ _ h => h)
  clear hT hG2 R0b kR0b HO1 HV1 G1 Z1 GA hG hIs hTk R0 HO HV kR0i
  go_wp2_with fail
  go_loopw [4, 5, 6, 15] (fun x y q i wr => ∃ (k : Nat), k ≤ n ∧ i = .int .i64 (k : Int) ∧ x = .int .i64 ((frees (cv ls) k : Nat) : Int) ∧ y = .int .i64 ((best (cv ls) k : Nat) : Int) ∧ q = .int .i64 ((runTo (cv ls) k : Nat) : Int) ∧ wr = w2) (fun _ _ _ i _ => n - (intOf i).toNat)
  case atStart => exact ⟨0, by omega, rfl, rfl, rfl, rfl, rfl⟩
  case round =>
    obtain ⟨k, hk, rfl, rfl, rfl, rfl, rfl⟩ := hrel
    by_cases hlt : k < n
    · have hlt' : (k : Int) < (n : Int) := by omega
      obtain ⟨g, cc, cur, hv2, hg0, hg1, hgc, hgh, z, hz, hcz⟩ := OwnT.get HT.out (tb_len n _) hlt
      simp at hv2
      obtain ⟨rfl, rfl⟩ := hv2
      rw [tb_get n _ hlt] at hz
      obtain rfl := Option.some.inj hz
      have l1 := runTo_le (cv ls) k
      have l2 : best (cv ls) k ≤ k := best_le _ _
      have l3 : frees (cv ls) k ≤ k := frees_le _ _
      have hB := hid (show best (cv ls) (k + 1) = max (best (cv ls) k) (runTo (cv ls) (k + 1)) from rfl)
      cases hc : cv ls k
      · have HR := hid (show runTo (cv ls) (k + 1) = runTo (cv ls) k + 1 by show (if cv ls k then 0 else runTo (cv ls) k + 1) = _; rw [hc]; simp)
        have HF := hid (show frees (cv ls) (k + 1) = frees (cv ls) k + 1 by show (if cv ls k then frees (cv ls) k else frees (cv ls) k + 1) = _; rw [hc]; simp)
        rw [hc] at hcz
        clear hz hgh hc
        generalize hqr : runTo (cv ls) k = qr at *
        generalize hqb : best (cv ls) k = qb at *
        generalize hqf : frees (cv ls) k = qf at *
        clear hqr hqb hqf
        go_wp2_with fail
        all_goals go_roundw
        case rel => exact ⟨k + 1, by omega, by go_num, by rw [HF.out]; go_num, by rw [hB.out, HR.out]; congr 1; omega, by rw [HR.out]; go_num, trivial⟩
        case measure => simp [intOf]; omega
      · have HR := hid (show runTo (cv ls) (k + 1) = 0 by show (if cv ls k then 0 else runTo (cv ls) k + 1) = _; rw [hc]; simp)
        have HF := hid (show frees (cv ls) (k + 1) = frees (cv ls) k by show (if cv ls k then frees (cv ls) k else frees (cv ls) k + 1) = _; rw [hc]; simp)
        rw [hc] at hcz
        clear hz hgh hc
        generalize hqr : runTo (cv ls) k = qr at *
        generalize hqb : best (cv ls) k = qb at *
        generalize hqf : frees (cv ls) k = qf at *
        clear hqr hqb hqf
        go_wp2_with fail
        all_goals go_roundw
        case rel => exact ⟨k + 1, by omega, by go_num, by rw [HF.out], by rw [hB.out, HR.out]; congr 1; omega, by rw [HR.out]; rfl, trivial⟩
        case measure => simp [intOf]; omega
    · obtain rfl : k = n := by omega
      have hlt' : ¬ (k : Int) < (k : Int) := by omega
      go_wp2_with fail
      go_ret2
      exact ⟨rfl, GW.out⟩
end Go.Proofs.Ytopkehknaclhlaa
