/- The program tells which samples are taken. Conditions: the pool is valid. (Printed by gen_pu.py.) -/
import Derived.Test.YtopkehknaclhlaaPt
namespace Go.Proofs.Ytopkehknaclhlaa
open Go Go.RowKit

/-- What is taken comes back. -/
def RTk2 (w : World) (n : Nat) (ls : List Ls) (e : Ending) (w' : World) : Prop :=
  ∃ a c, e = .returned (.slice a n c) ∧ OwnT w' w.heap.size (.slice a n c) (tb n (cv ls)) ∧ Chg (fun _ => False) w w'

set_option maxRecDepth 100000 in
set_option maxHeartbeats 4000000 in
theorem taken_calls (w : World) (s v : Value) (xs : List (Nat × Nat)) (ls : List Ls) (ho : OwnC w 0 s xs) (hv : OwnL w 0 v ls) (hp : POk xs.length ls) :
    Calls Try.prog 111 #[.agg #[s, v]] w (RTk2 w xs.length ls) := by
  obtain ⟨a, c, rfl⟩ := ho.form
  obtain ⟨a2, c2, rfl⟩ := hv.form
  have n256 := hp.nle
  have m16 := hp.len
  have hmk := fun w => run_makeBools w xs.length (by omega)
  have A1 := (Chg.refl (fun _ => False) w).alloc (.cells #[.slice a xs.length c, .slice a2 ls.length c2] 67)
  have A2 := A1.alloc (.cells (Array.replicate xs.length (.bool false)) 4)
  have HL0 := hid (hv.chg A2 fun _ _ _ h => h)
  have HB0 := hid (heap_old (o' := .cells (Array.replicate xs.length (.bool false)) 4) (heap_new w (.cells #[.slice a xs.length c, .slice a2 ls.length c2] 67)))
  have T0' := OwnR.lit encB (w.alloc (.cells #[.slice a xs.length c, .slice a2 ls.length c2] 67)) (tb xs.length (fun _ => false)) (by rw [tb_len]; omega) (base := w.heap.size) (by simp) _ 4 rfl (flat_false xs.length)
  rw [tb_len] at T0'
  have T0 := hid (show OwnT ((w.alloc (.cells #[.slice a xs.length c, .slice a2 ls.length c2] 67)).alloc (.cells (Array.replicate xs.length (.bool false)) 4)) w.heap.size (.slice (some ⟨w.heap.size + 1, 0, none⟩) xs.length xs.length) (tb xs.length (cv (ls.take 0))) by
    have h := T0'
    rw [show (fun _ : Nat => false) = cv (ls.take 0) from by funext i; simp [cv]] at h
    simpa using h)
  have G0 := hid A2
  have HP := hid hp
  clear A1 A2 ho hv T0' hp
  generalize hn : xs.length = n at *
  generalize hm : ls.length = m at *
  have HM := hid hm
  clear hn hm
  go_enter Try.func111, Try.ntmps111
  go_wp2_with fail
  go_loopw [14] (fun i wr => ∃ (k : Nat), k ≤ m ∧ i = .int .i64 (k : Int) ∧ Hid (OwnT wr w.heap.size (.slice (some ⟨w.heap.size + 1, 0, none⟩) n n) (tb n (cv (ls.take k)))) ∧ Hid (OwnL wr 0 (.slice a2 m c2) ls) ∧ Hid (wr.heap[w.heap.size]? = some (.cells #[.slice a n c, .slice a2 m c2] 67 (0, 0))) ∧ Hid (Chg (fun _ => False) w wr)) (fun i _ => m - (intOf i).toNat)
  case atStart => exact ⟨0, by omega, rfl, T0, HL0, HB0, G0⟩
  case round =>
    obtain ⟨k, hk, rfl, HT, HL, HB, G⟩ := hrel
    obtain ⟨wo, rfl⟩ : ∃ wo : World, wo = wr := ⟨_, rfl⟩
    clear T0 HL0 HB0 G0
    have lz := G.out.size
    by_cases hlt : k < m
    · have hlt' : (k : Int) < (m : Int) := by omega
      obtain ⟨g, cc, cur, hv2, hg0, hg1, hgc, hgh, l, hlk, c0, c1, c2', c3⟩ := OwnL.lease HL.out HM.out hlt
      simp at hv2
      obtain ⟨rfl, rfl⟩ := hv2
      have hok := HP.out.ok l (List.mem_of_getElem? hlk)
      have hfit : l.st + l.rm ≤ n := by
        rcases hok with ⟨_, h1, _, h3⟩ | ⟨_, _, h2, _⟩ <;> omega
      have HC2 := hid (fun i => show cv (ls.take (k + 1)) i = (cv (ls.take k) i || (decide (l.st ≤ i) && decide (i < l.st + l.rm))) by
        rw [cv_snoc hlk i]
        unfold cvl
        rcases hok with ⟨h1, h2, _, h4⟩ | ⟨h1, _⟩
        · rw [h1, h2, h4]; simp
        · rw [h1]; simp)
      have kB := cells_at HB.out
      clear hgh hlk hok
      generalize l.st = p at *
      generalize l.ct = q at *
      generalize l.rm = r at *
      generalize l.fr = fr at *
      have lT : w.heap.size + 1 < wo.heap.size := (HT.out.own_lt (n := w.heap.size + 1) rfl).2
      have A1 := (Chg.refl (fun _ => False) wo).alloc (.cells #[.int .i64 (p : Int), .int .i64 (q : Int), .int .i64 (r : Int), .bool fr] 71)
      have N1 := hid (heap_new wo (.cells #[.int .i64 (p : Int), .int .i64 (q : Int), .int .i64 (r : Int), .bool fr] 71))
      have HT3 := hid (HT.out.chg A1 fun _ _ _ h => h)
      have HL3 := hid (HL.out.chg A1 fun _ _ _ h => h)
      have HB3 := hid (A1.heap HB.out (fun h => h))
      have G3 := hid (G.out.trans A1 fun _ _ h => h)
      have HD0 := hid (show OwnT (wo.alloc (.cells #[.int .i64 (p : Int), .int .i64 (q : Int), .int .i64 (r : Int), .bool fr] 71)) w.heap.size (.slice (some ⟨w.heap.size + 1, 0, none⟩) n n) (tb n (fun i => cv (ls.take k) i || (decide (p ≤ i) && decide (i < p + 0)))) by
        rw [tb_congr n (d := cv (ls.take k)) fun i _ => by
          have h : (decide (p ≤ i) && decide (i < p + 0)) = false := by
            cases h1 : decide (p ≤ i)
            · rfl
            · simp at h1
              simp
              omega
          show (cv (ls.take k) i || (decide (p ≤ i) && decide (i < p + 0))) = _
          rw [h, Bool.or_false]]
        exact HT3.out)
      clear A1 HT HL HB G HT3
      go_wp2_with fail
      go_loopw [20] (fun i wr => ∃ (j : Nat), j ≤ r ∧ i = .int .i64 (j : Int) ∧ Hid (OwnT wr w.heap.size (.slice (some ⟨w.heap.size + 1, 0, none⟩) n n) (tb n (fun i => cv (ls.take k) i || (decide (p ≤ i) && decide (i < p + j))))) ∧ Hid (Chg (fun x => x = w.heap.size + 1) (wo.alloc (.cells #[.int .i64 (p : Int), .int .i64 (q : Int), .int .i64 (r : Int), .bool fr] 71)) wr)) (fun i _ => r - (intOf i).toNat)
      case atStart => exact ⟨0, by omega, rfl, HD0, hid (Chg.refl _ _)⟩
      case round =>
        obtain ⟨j, hj2, rfl, HD, GI⟩ := hrel
        have N2 := hid (GI.out.heap N1.out (by omega))
        have k2 := cells_at N2.out
        by_cases hl2 : j < r
        · have hl2' : (j : Int) < (r : Int) := by omega
          obtain ⟨gn, cn, cur2, hv3, _, hgn1, _, hgh, z, hz, hcz⟩ := OwnT.get HD.out (tb_len n _) (show p + j < n by omega)
          simp at hv3
          obtain ⟨rfl, rfl⟩ := hv3
          have fz := frees_at hgh
          have j0 : (p : Int) + (j : Int) < (n : Int) := by omega
          have j1 : (0 : Int) ≤ (p : Int) + (j : Int) := by omega
          have HP2 := OwnT.put HD.out (p + j) true (by rw [tb_len]; omega)
          rw [tb_set n _ (fun i => cv (ls.take k) i || (decide (p ≤ i) && decide (i < p + (j + 1)))) (by omega) (fun i hi => by
            by_cases e : i = p + j
            · subst e
              rw [if_pos rfl]
              simp
            · rw [if_neg e]
              congr 2
              simp
              omega)] at HP2
          have HP3 := hid HP2
          clear HP2 hz hgh
          go_wp2_with fail
          go_roundw
          case rel => exact ⟨j + 1, by omega, by go_num, HP3, hid (GI.out.setCell (p := ⟨w.heap.size + 1, p + j, none⟩) (.inl rfl) _)⟩
          case measure => simp [intOf]; omega
        · obtain rfl : j = r := by omega
          have hl2' : ¬ (j : Int) < (j : Int) := by omega
          have HT4 := hid (show OwnT wr w.heap.size (.slice (some ⟨w.heap.size + 1, 0, none⟩) n n) (tb n (cv (ls.take (k + 1)))) by
            rw [tb_congr n (c := cv (ls.take (k + 1))) fun i _ => HC2.out i]
            exact HD.out)
          have HL4 := hid (HL3.out.chgN GI.out (fun x h1 h2 => by
            subst h2
            exact apartR (by decide) HL3.out HD0.out h1 rfl))
          have HB4 := hid (GI.out.heap HB3.out (by omega))
          have G4 := hid (G3.out.trans GI.out (fun x h1 h2 => by omega))
          clear HD GI N2
          go_wp2_with fail
          go_roundw
          case rel => exact ⟨k + 1, by omega, by go_num, HT4, HL4, HB4, G4⟩
          case measure => simp [intOf]; omega
    · obtain rfl : k = m := by omega
      have hlt' : ¬ (k : Int) < (k : Int) := by omega
      go_wp2_with fail
      go_ret
      exact ⟨_, _, rfl, by have h := HT.out; rw [← HM.out, List.take_length] at h; exact h, G.out⟩
end Go.Proofs.Ytopkehknaclhlaa
