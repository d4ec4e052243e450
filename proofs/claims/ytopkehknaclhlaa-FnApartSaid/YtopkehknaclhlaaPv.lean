/- The program: a valid pool is one. Conditions: the pool is valid. (Printed by gen_pv.py.) -/
import Derived.Test.YtopkehknaclhlaaPu
namespace Go.Proofs.Ytopkehknaclhlaa
open Go Go.RowKit

set_option maxRecDepth 100000 in
set_option maxHeartbeats 4000000 in
theorem IsPool_calls (w : World) (s v : Value) (xs : List (Nat × Nat)) (ls : List Ls) (ho : OwnC w 0 s xs) (hv : OwnL w 0 v ls) (hp : POk xs.length ls) :
    Calls Try.prog 106 #[.agg #[s, v]] w (RVal w (.bool true)) := by
  obtain ⟨a, c, rfl⟩ := ho.form
  obtain ⟨a2, c2, rfl⟩ := hv.form
  have n256 := hp.nle
  have m16 := hp.len
  have A1 := (Chg.refl (fun _ => False) w).alloc (.cells #[.slice a xs.length c, .slice a2 ls.length c2] 67)
  have HL0 := hid (hv.chg A1 fun _ _ _ h => h)
  have HB0 := hid (heap_new w (.cells #[.slice a xs.length c, .slice a2 ls.length c2] 67))
  have G0 := hid A1
  have HP := hid hp
  clear A1 ho hv hp
  generalize hn : xs.length = n at *
  generalize hm : ls.length = m at *
  have HM := hid hm
  clear hn hm
  have b1 : decide ((256 : Int) < (n : Int)) = false := by simp; omega
  have b2 : decide ((16 : Int) < (m : Int)) = false := by simp; omega
  go_enter Try.func106, Try.ntmps106
  go_wp2_with fail
  go_loopw [20] (fun i wr => ∃ (k : Nat), k ≤ m ∧ i = .int .i64 (k : Int) ∧ Hid (OwnL wr 0 (.slice a2 m c2) ls) ∧ Hid (wr.heap[w.heap.size]? = some (.cells #[.slice a n c, .slice a2 m c2] 67 (0, 0))) ∧ Hid (Chg (fun _ => False) w wr)) (fun i _ => m - (intOf i).toNat)
  case atStart => exact ⟨0, by omega, rfl, HL0, HB0, G0⟩
  case round =>
    obtain ⟨k, hk, rfl, HL, HB, G⟩ := hrel
    obtain ⟨wo, rfl⟩ : ∃ wo : World, wo = wr := ⟨_, rfl⟩
    clear HL0 HB0 G0
    have lz := G.out.size
    by_cases hlt : k < m
    · have hlt' : (k : Int) < (m : Int) := by omega
      obtain ⟨g, cc, cur, hv2, hg0, hg1, hgc, hgh, l, hlk, c0, c1, c2', c3⟩ := OwnL.lease HL.out HM.out hlt
      simp at hv2
      obtain ⟨rfl, rfl⟩ := hv2
      have hok := HP.out.ok l (List.mem_of_getElem? hlk)
      have kB := cells_at HB.out
      have HLK := hid hlk
      clear hgh hlk
      rcases hok with ⟨h1, h2, h3, h4⟩ | ⟨h1, h2, h3, h4⟩
      · rw [h1] at c3
        rw [h2] at c0
        rw [h3] at c1
        rw [h4] at c2'
        clear h1 h2 h3 h4
        have A1 := (Chg.refl (fun _ => False) wo).alloc (.cells #[.int .i64 ((0 : Nat) : Int), .int .i64 ((0 : Nat) : Int), .int .i64 ((0 : Nat) : Int), .bool true] 71)
        have HL3 := hid (HL.out.chg A1 fun _ _ _ h => h)
        have HB3 := hid (A1.heap HB.out (fun h => h))
        have G3 := hid (G.out.trans A1 fun _ _ h => h)
        clear A1
        go_wp2_with fail
        go_roundw
        case rel => exact ⟨k + 1, by omega, by go_num, HL3, HB3, G3⟩
        case measure => simp [intOf]; omega
      · rw [h1] at c3
        have hdj := hid (fun (j : Nat) (l' : Ls) (hj : j < k) (hl' : ls[j]? = some l') => show l'.fr = true ∨ l'.st + l'.rm ≤ l.st ∨ l.st + l.rm ≤ l'.st by
          obtain ⟨q1, q2⟩ := List.getElem?_eq_some_iff.mp hl'
          obtain ⟨q3, q4⟩ := List.getElem?_eq_some_iff.mp HLK.out
          have d := List.pairwise_iff_getElem.mp HP.out.dj j k q1 q3 hj
          rw [q2, q4] at d
          rcases d with d | d | d | d
          · exact .inl d
          · rw [h1] at d; cases d
          · exact .inr (.inl d)
          · exact .inr (.inr d))
        generalize l.st = p at *
        generalize l.ct = q at *
        generalize l.rm = r at *
        have d1 : decide ((p : Int) < 0) = false := by simp
        have d2 : decide ((r : Int) < 1) = false := by simp; omega
        have d3 : decide ((q : Int) < 0) = false := by simp
        have d4 : decide ((r : Int) < (q : Int)) = false := by simp; omega
        have d5 : decide ((n : Int) < (r : Int)) = false := by simp; omega
        have d6 : decide ((n : Int) - (r : Int) < (p : Int)) = false := by simp; omega
        clear h1 HLK
        have A1 := (Chg.refl (fun _ => False) wo).alloc (.cells #[.int .i64 (p : Int), .int .i64 (q : Int), .int .i64 (r : Int), .bool false] 71)
        have HL3 := hid (HL.out.chg A1 fun _ _ _ h => h)
        have HB3 := hid (A1.heap HB.out (fun h => h))
        have N3 := hid (heap_new wo (.cells #[.int .i64 (p : Int), .int .i64 (q : Int), .int .i64 (r : Int), .bool false] 71))
        have G3 := hid (G.out.trans A1 fun _ _ h => h)
        clear A1 HL HB G
        go_upto_region 6 with fail
        generalize hw1 : wo.alloc (.cells #[.int .i64 (p : Int), .int .i64 (q : Int), .int .i64 (r : Int), .bool false] 71) = w1 at *
        clear hw1 c0 c1 c2' c3 kB
        have kB := cells_at HB3.out
        have kN := cells_at N3.out
        go_wp2_with fail
        go_loopw [74] (fun i wx => ∃ (j : Nat), j ≤ k ∧ i = .int .i64 (j : Int) ∧ Hid (OwnL wx 0 (.slice (some ⟨g, 0, none⟩) m c2) ls) ∧ Hid (wx.heap[w.heap.size]? = some (.cells #[.slice a n c, .slice (some ⟨g, 0, none⟩) m c2] 67 (0, 0))) ∧ Hid (wx.heap[wo.heap.size]? = some (.cells #[.int .i64 (p : Int), .int .i64 (q : Int), .int .i64 (r : Int), .bool false] 71 (0, 0))) ∧ Hid (Chg (fun _ => False) w wx)) (fun i _ => k - (intOf i).toNat)
        case atStart => exact ⟨0, by omega, rfl, HL3, HB3, N3, G3⟩
        case round =>
          obtain ⟨j, hj, rfl, IL, IB, IN, IG⟩ := hrel
          obtain ⟨wi, rfl⟩ : ∃ wi : World, wi = wr := ⟨_, rfl⟩
          clear HL3 HB3 N3 G3 kB kN
          by_cases hlj : j < k
          · have hlj' : (j : Int) < (k : Int) := by omega
            obtain ⟨g', cc', cur', hv3, hg0', hg1', hgc', hgh', l', hlk', e0, e1, e2, e3⟩ := OwnL.lease IL.out HM.out (show j < m by omega)
            simp at hv3
            obtain ⟨rfl, rfl⟩ := hv3
            have hd := hdj.out j l' hlj hlk'
            clear hgh' hlk'
            generalize l'.st = p' at *
            generalize l'.ct = q' at *
            generalize l'.rm = r' at *
            have A1 := fun b => (Chg.refl (fun _ => False) wi).alloc (.cells #[.int .i64 (p' : Int), .int .i64 (q' : Int), .int .i64 (r' : Int), .bool b] 71)
            have JL := fun b => hid (IL.out.chg (A1 b) fun _ _ _ h => h)
            have JB := fun b => hid ((A1 b).heap IB.out (fun h => h))
            have JN := fun b => hid ((A1 b).heap IN.out (fun h => h))
            have JG := fun b => hid (IG.out.trans (A1 b) fun _ _ h => h)
            cases hf : l'.fr
            · rw [hf] at e3 hd
              have kN := cells_at (JN false).out
              have kI := cells_at IN.out
              rcases hd with hd | hd | hd
              · cases hd
              · have f0 : decide ((p' : Int) < (p : Int) + (r : Int)) = true := by simp; omega
                have f1 : decide ((p : Int) < (p' : Int) + (r' : Int)) = false := by simp; omega
                clear A1 hf
                go_wp2_with fail
                all_goals go_roundw
                all_goals first | exact ⟨j + 1, by omega, by go_num, JL false, JB false, JN false, JG false⟩ | (simp [intOf]; omega)
              · have f1 : decide ((p' : Int) < (p : Int) + (r : Int)) = false := by simp; omega
                clear A1 hf
                go_wp2_with fail
                all_goals go_roundw
                case rel => exact ⟨j + 1, by omega, by go_num, JL false, JB false, JN false, JG false⟩
                case measure => simp [intOf]; omega
            · rw [hf] at e3
              clear A1 hf hd
              go_wp2_with fail
              all_goals go_roundw
              all_goals first | exact ⟨j + 1, by omega, by go_num, JL true, JB true, JN true, JG true⟩ | (simp [intOf]; omega)
          · obtain rfl : j = k := by omega
            have hlj' : ¬ (j : Int) < (j : Int) := by omega
            go_wp2_with fail
            go_roundw
            case rel => exact ⟨j + 1, by omega, by go_num, IL, IB, IG⟩
            case measure => simp [intOf]; omega
    · obtain rfl : k = m := by omega
      have hlt' : ¬ (k : Int) < (k : Int) := by omega
      go_wp2_with fail
      go_ret
      exact ⟨rfl, G.out⟩
end Go.Proofs.Ytopkehknaclhlaa
