/- The reference tells which samples are taken, and that a valid pool is one. Conditions: the pool is valid. -/
import Derived.Test.YtopkehknaclhlaaPa
import Derived.Test.YtopkehknaclhlaaEx
import Derived.Test.YtopkehknaclhlaaGen
namespace Go.Proofs.Ytopkehknaclhlaa
open Go Go.RowKit

theorem info3n : (Try.prog.info? 3).map (fun i => (i.zero, i.size, i.bytes)) = some (some (.int .i64 0), 1, 8) := by kernel_rfl
theorem run_makeInts (w : World) (n : Nat) (h : n ≤ 1048576) : (Instr.makeSlice 34 (.int .i64 (n : Int)) (.int .i64 (n : Int))).run Try.prog w =
    .ok (.slice (some ⟨w.heap.size, 0, none⟩) n n) (w.alloc (.cells (Array.replicate n (.int .i64 0)) 3)) := by
  obtain ⟨i, hi, hz, hs, hb⟩ := info_parts info3n
  have hr := run_make (P := Try.prog) w 34 3 i _ Try.underlying34 hi hz .i64 .i64 n n (by omega) (by omega) (by rw [hb]; omega) (by omega)
  rw [hr, hs]
  simp only [Int.toNat_natCast, Nat.mul_one]
  rw [show (Value.int .i64 0).cells = #[.int .i64 0] from rfl, madeCells_one]

theorem flat_zero (n : Nat) : (Array.replicate n (Value.int .i64 0)).toList = (tl n (fun _ => 0)).flatMap encN.cells := by
  rw [Array.toList_replicate]
  unfold tl
  rw [List.flatMap_map]
  induction n with
  | zero => rfl
  | succ n ih => rw [List.range_succ, List.flatMap_append, ← ih, List.replicate_succ']; rfl

theorem cov_snoc {ls : List Ls} {k : Nat} {l : Ls} (h : ls[k]? = some l) (i : Nat) : cov (ls.take (k + 1)) i = cov (ls.take k) i + if cvl i l then 1 else 0 := by
  unfold cov
  rw [List.take_add_one, h, Option.toList_some, List.countP_append, List.countP_cons, List.countP_nil, Nat.zero_add]

theorem apartR {α β : Type} {e1 : Enc α} {e2 : Enc β} {w : World} {b1 b2 : Nat} {v u : Value} {xs : List α} {ys : List β} (hne : e1.E ≠ e2.E) (h : OwnR e1 w b1 v xs) (k : OwnR e2 w b2 u ys) {g : Nat} (h1 : some g = v.ownBlock) (h2 : some g = u.ownBlock) : False := by
  rcases h.2 with ⟨rfl, _⟩ | ⟨g1, cap, cur, rfl, _, hh, _⟩
  · simp [Value.ownBlock] at h1
  · rcases k.2 with ⟨rfl, _⟩ | ⟨g2, cap2, cur2, rfl, _, kk, _⟩
    · simp [Value.ownBlock] at h2
    · simp [Value.ownBlock] at h1 h2
      subst h1
      subst h2
      rw [hh] at kk
      simp only [Option.some.injEq, Obj.cells.injEq] at kk
      exact hne kk.2.1

/-- What is taken comes back, and true. -/
def RTaken (w : World) (n : Nat) (ls : List Ls) (e : Ending) (w' : World) : Prop :=
  ∃ a c, e = .returned (.tuple #[.slice a n c, .bool true]) ∧ OwnN w' w.heap.size (.slice a n c) (tl n (cov ls)) ∧ Chg (fun _ => False) w w'

set_option maxRecDepth 100000 in
set_option maxHeartbeats 4000000 in
theorem l3Taken_calls (w : World) (s v : Value) (xs : List (Nat × Nat)) (ls : List Ls) (ho : OwnC w 0 s xs) (hv : OwnL w 0 v ls) (hp : POk xs.length ls) :
    Calls Try.prog 112 #[.agg #[s, v]] w (RTaken w xs.length ls) := by
  obtain ⟨a, c, rfl⟩ := ho.form
  obtain ⟨a2, c2, rfl⟩ := hv.form
  have n256 := hp.nle
  have m16 := hp.len
  have hmk := fun w => run_makeInts w xs.length (by omega)
  have A1 := (Chg.refl (fun _ => False) w).alloc (.cells #[.slice a xs.length c, .slice a2 ls.length c2] 67)
  have A2 := A1.alloc (.cells (Array.replicate xs.length (.int .i64 0)) 3)
  have HL0 := hid (hv.chg A2 fun _ _ _ h => h)
  have HB0 := hid (heap_old (o' := .cells (Array.replicate xs.length (.int .i64 0)) 3) (heap_new w (.cells #[.slice a xs.length c, .slice a2 ls.length c2] 67)))
  have T0' := OwnR.lit encN (w.alloc (.cells #[.slice a xs.length c, .slice a2 ls.length c2] 67)) (tl xs.length (fun _ => 0)) (by rw [tl_len]; omega) (base := w.heap.size) (by simp) _ 3 rfl (flat_zero xs.length)
  rw [tl_len] at T0'
  have T0 := hid (show OwnN ((w.alloc (.cells #[.slice a xs.length c, .slice a2 ls.length c2] 67)).alloc (.cells (Array.replicate xs.length (.int .i64 0)) 3)) w.heap.size (.slice (some ⟨w.heap.size + 1, 0, none⟩) xs.length xs.length) (tl xs.length (cov (ls.take 0))) by
    have h := T0'
    rw [show (fun _ : Nat => 0) = cov (ls.take 0) from by funext i; simp [cov]] at h
    simpa using h)
  have G0 := hid A2
  have HP := hid hp
  clear A1 A2 ho hv T0' hp
  generalize hn : xs.length = n at *
  generalize hm : ls.length = m at *
  have HM := hid hm
  clear hn hm
  go_enter Try.func112, Try.ntmps112
  go_wp2_with fail
  go_loopw [15] (fun i wr => ∃ (k : Nat), k ≤ m ∧ i = .int .i64 (k : Int) ∧ Hid (OwnN wr w.heap.size (.slice (some ⟨w.heap.size + 1, 0, none⟩) n n) (tl n (cov (ls.take k)))) ∧ Hid (OwnL wr 0 (.slice a2 m c2) ls) ∧ Hid (wr.heap[w.heap.size]? = some (.cells #[.slice a n c, .slice a2 m c2] 67 (0, 0))) ∧ Hid (Chg (fun _ => False) w wr)) (fun i _ => m - (intOf i).toNat)
  case atStart => exact ⟨0, by omega, rfl, T0, HL0, HB0, G0⟩
  case round =>
    obtain ⟨k, hk, rfl, HT, HL, HB, G⟩ := hrel
    obtain ⟨wo, rfl⟩ : ∃ wo : World, wo = wr := ⟨_, rfl⟩
    clear T0 HL0 HB0 G0
    have lz := G.out.size
    by_cases hlt : k < m
    · have hlt' : (k : Int) < (m : Int) := by omega
      obtain ⟨g, cc, cur, hv2, hg0, hg1, hgc, hgh, l, hlk, c0, c1, c2', c3⟩ := OwnL.lease HL.out HM.out hlt
      simp at hv2
      obtain ⟨rfl, rfl⟩ := hv2
      have hok := HP.out.ok l (List.mem_of_getElem? hlk)
      have HC := hid (cov_snoc hlk)
      have kB := cells_at HB.out
      clear hgh hlk
      rcases hok with ⟨h1, h2, h3, h4⟩ | ⟨h1, h2, h3, h4⟩
      · have HT2 := hid (show OwnN wo w.heap.size (.slice (some ⟨w.heap.size + 1, 0, none⟩) n n) (tl n (cov (ls.take (k + 1)))) by
          rw [tl_congr n (c := cov (ls.take (k + 1))) (d := cov (ls.take k)) fun i _ => by rw [HC.out i]; unfold cvl; rw [h1]; simp]
          exact HT.out)
        rw [h1] at c3
        rw [h2] at c0
        rw [h3] at c1
        rw [h4] at c2'
        clear h1 h2 h3 h4 HC
        have A1 := (Chg.refl (fun _ => False) wo).alloc (.cells #[.int .i64 ((0 : Nat) : Int), .int .i64 ((0 : Nat) : Int), .int .i64 ((0 : Nat) : Int), .bool true] 71)
        have HT3 := hid (HT2.out.chg A1 fun _ _ _ h => h)
        have HL3 := hid (HL.out.chg A1 fun _ _ _ h => h)
        have HB3 := hid (A1.heap HB.out id)
        have G3 := hid (G.out.trans A1 fun _ _ h => h)
        clear A1
        go_wp2_with fail
        go_roundw
        case rel => exact ⟨k + 1, by omega, by go_num, HT3, HL3, HB3, G3⟩
        case measure => simp [intOf]; omega
      · rw [h1] at c3
        have HC2 := hid (fun i => show cov (ls.take (k + 1)) i = cov (ls.take k) i + if l.st ≤ i ∧ i < l.st + l.rm then 1 else 0 by
          rw [HC.out i]; unfold cvl; rw [h1]; simp)
        generalize l.st = p at *
        generalize l.ct = q at *
        generalize l.rm = r at *
        clear h1 HC
        have lT : w.heap.size + 1 < wo.heap.size := (HT.out.own_lt (n := w.heap.size + 1) rfl).2
        have A1 := (Chg.refl (fun _ => False) wo).alloc (.cells #[.int .i64 (p : Int), .int .i64 (q : Int), .int .i64 (r : Int), .bool false] 71)
        have N1 := hid (heap_new wo (.cells #[.int .i64 (p : Int), .int .i64 (q : Int), .int .i64 (r : Int), .bool false] 71))
        have HT3 := hid (HT.out.chg A1 fun _ _ _ h => h)
        have HL3 := hid (HL.out.chg A1 fun _ _ _ h => h)
        have HB3 := hid (A1.heap HB.out id)
        have G3 := hid (G.out.trans A1 fun _ _ h => h)
        have HD0 := hid (show OwnN (wo.alloc (.cells #[.int .i64 (p : Int), .int .i64 (q : Int), .int .i64 (r : Int), .bool false] 71)) w.heap.size (.slice (some ⟨w.heap.size + 1, 0, none⟩) n n) (tl n (fun i => cov (ls.take k) i + if p ≤ i ∧ i < p then 1 else 0)) by
          rw [tl_congr n (d := cov (ls.take k)) fun i _ => by show cov (ls.take k) i + (if p ≤ i ∧ i < p then 1 else 0) = _; rw [if_neg (by omega)]; rfl]
          exact HT3.out)
        have kB3 := cells_at HB3.out
        clear A1 HT HL HB G HT3
        go_wp2_with (go_at_call 85; refine (l1In_yes _ _ _ _ (by omega) (by omega)).mono ?_; rintro e w' ⟨rfl, rfl⟩)
        go_loopw [7] (fun i wr => ∃ (j : Nat), p ≤ j ∧ j ≤ p + r ∧ i = .int .i64 (j : Int) ∧ Hid (OwnN wr w.heap.size (.slice (some ⟨w.heap.size + 1, 0, none⟩) n n) (tl n (fun i => cov (ls.take k) i + if p ≤ i ∧ i < j then 1 else 0))) ∧ Hid (Chg (fun x => x = w.heap.size + 1) (wo.alloc (.cells #[.int .i64 (p : Int), .int .i64 (q : Int), .int .i64 (r : Int), .bool false] 71)) wr)) (fun i _ => p + r - (intOf i).toNat)
        case atStart => exact ⟨p, by omega, by omega, rfl, HD0, hid (Chg.refl _ _)⟩
        case round =>
          obtain ⟨j, hj1, hj2, rfl, HD, GI⟩ := hrel
          have N2 := hid (GI.out.heap N1.out (by omega))
          have k2 := cells_at N2.out
          by_cases hl2 : j < p + r
          · have hl2' : (j : Int) < (p : Int) + (r : Int) := by omega
            obtain ⟨gn, cn, cur2, hv3, _, hgn1, _, hgh, z, hz, hcz⟩ := OwnN.int HD.out (tl_len n _) (show j < n by omega)
            simp at hv3
            obtain ⟨rfl, rfl⟩ := hv3
            rw [tl_get n _ (by omega)] at hz
            have hzv := Option.some.inj hz
            have hcl : cov (ls.take k) j ≤ 16 := by
              have h := List.countP_le_length (p := cvl j) (l := ls.take k)
              rw [List.length_take] at h
              unfold cov
              omega
            have z0 : 0 ≤ z := by rw [← hzv]; omega
            have z1 : z ≤ 17 := by
              rw [← hzv]
              split <;> omega
            have fz := frees_at hgh
            have j0 : (j : Int) < (n : Int) := by omega
            have HP2 := OwnN.put HD.out j (z + 1) (by rw [tl_len]; omega)
            rw [← hzv, tl_set n _ (fun i => cov (ls.take k) i + if p ≤ i ∧ i < j + 1 then 1 else 0) (by omega) (fun i hi => by
              by_cases e : i = j
              · subst e
                rw [if_pos rfl, if_pos (by omega), if_neg (by omega)]
              · rw [if_neg e]
                by_cases e2 : p ≤ i ∧ i < j
                · rw [if_pos (by omega), if_pos e2]
                · rw [if_neg (by omega), if_neg e2])] at HP2
            rw [hzv] at HP2
            have HP3 := hid HP2
            clear HP2 hz hzv hgh hcl
            go_wp2_with fail
            go_roundw
            case rel => exact ⟨j + 1, by omega, by omega, by go_num, HP3, hid (GI.out.setCell (p := ⟨w.heap.size + 1, j, none⟩) (.inl rfl) _)⟩
            case measure => simp [intOf]; omega
          · obtain rfl : j = p + r := by omega
            have hl2' : ¬ ((p + r : Nat) : Int) < (p : Int) + (r : Int) := by omega
            have HT4 := hid (show OwnN wr w.heap.size (.slice (some ⟨w.heap.size + 1, 0, none⟩) n n) (tl n (cov (ls.take (k + 1)))) by
              rw [tl_congr n (c := cov (ls.take (k + 1))) fun i _ => HC2.out i]
              exact HD.out)
            have HL4 := hid (HL3.out.chgN GI.out (fun x h1 h2 => by
              subst h2
              exact apartR (by decide) HL3.out HD0.out h1 rfl))
            have HB4 := hid (GI.out.heap HB3.out (by omega))
            have G4 := hid (G3.out.trans GI.out (fun x h1 h2 => by omega))
            clear HD GI N2
            go_wp2_with fail
            go_roundw
            case rel => exact ⟨k + 1, by omega, by go_num, HT4, HL4, HB4, G4⟩
            case measure => simp [intOf]; omega
    · obtain rfl : k = m := by omega
      have hlt' : ¬ (k : Int) < (k : Int) := by omega
      go_wp2_with fail
      go_ret2
      exact ⟨_, _, rfl, by have h := HT.out; rw [← HM.out, List.take_length] at h; exact h, G.out⟩
end Go.Proofs.Ytopkehknaclhlaa
