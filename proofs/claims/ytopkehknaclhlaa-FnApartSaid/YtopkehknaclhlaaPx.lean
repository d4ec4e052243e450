/- The program puts a lease in the first free place. Conditions: at most 16 leases. (Printed by gen_px.py.) -/
import Derived.Test.YtopkehknaclhlaaPv
import Derived.Test.YtopkehknaclhlaaPw
namespace Go.Proofs.Ytopkehknaclhlaa
open Go Go.RowKit

/-- A lease in the first place that is free, or behind all others. -/
def putO (ls : List Ls) (x : Ls) : List Ls × Nat := if ffree ls < ls.length then (ls.set (ffree ls) x, ffree ls) else (ls ++ [x], ls.length)
theorem putL_putO {ls : List Ls} (x : Ls) (h : ls.length ≤ 16) : putL ls x = if (putO ls x).1.length ≤ 16 then some (putO ls x) else none := by
  unfold putL putO
  by_cases hf : ffree ls < ls.length
  · rw [if_pos hf, if_pos hf, if_pos (by simpa using h)]
  · rw [if_neg hf, if_neg hf]
    by_cases h6 : ls.length = 16
    · rw [if_pos h6, if_neg (by simp; omega)]
    · rw [if_neg h6, if_pos (by simp; omega)]

set_option maxHeartbeats 1000000 in
theorem lend1_calls (w : World) (p q r : Int) (f : Bool) :
    Calls Try.prog 163 #[.agg #[.int .i64 p, .int .i64 q, .int .i64 r, .bool f]] w (RVal w (.bool f)) := by
  have GA := hid ((Chg.refl (fun _ => False) w).alloc (.cells #[.int .i64 p, .int .i64 q, .int .i64 r, .bool f] 71))
  go_enter Try.func163, Try.ntmps163
  go_wp2_with fail
  go_ret
  exact ⟨rfl, GA.out⟩

set_option maxRecDepth 100000 in
set_option maxHeartbeats 4000000 in
theorem IndexL_calls (w : World) (v : Value) (ls : List Ls) (hv : OwnL w 0 v ls) (hl : ls.length ≤ 1000) :
    Calls Try.prog 162 #[v, .func (.func 163) #[] #[]] w (RVal w (.int .i64 (if ffree ls < ls.length then ((ffree ls : Nat) : Int) else -1))) := by
  obtain ⟨a2, c2, rfl⟩ := hv.form
  have HV := hid hv
  clear hv
  generalize hm : ls.length = m at *
  have HM := hid hm
  clear hm
  generalize hV : (if ffree ls < m then ((ffree ls : Nat) : Int) else -1) = V at *
  have HVV := hid hV
  clear hV
  have L1 := hid (fun w p q r f => lend1_calls w p q r f)
  go_enter Try.func162, Try.ntmps162
  go_wp2_with fail
  go_loopw [8] (fun i wr => ∃ (k : Nat), k ≤ m ∧ i = .int .i64 (k : Int) ∧ Hid (∀ (j : Nat) (l : Ls), j < k → ls[j]? = some l → l.fr = false) ∧ Hid (Chg (fun _ => False) w wr)) (fun i _ => m - (intOf i).toNat)
  case atStart => exact ⟨0, by omega, rfl, hid (fun j l h => by omega), hid (Chg.refl _ w)⟩
  case round =>
    obtain ⟨k, hk, rfl, HF, GR⟩ := hrel
    by_cases hlt : k < m
    · have hlt' : (k : Int) < (m : Int) := by omega
      have HVr := hid (HV.out.chg GR.out fun _ _ _ h => h)
      obtain ⟨g, cc, cur, hv2, hg0, hg1, hgc, hgh, l, hlk, c0, c1, c2', c3⟩ := OwnL.lease HVr.out HM.out hlt
      simp at hv2
      obtain ⟨rfl, rfl⟩ := hv2
      have HLK := hid hlk
      clear hlk hgh
      cases hf : l.fr
      · have HF2 := hid (fun (j : Nat) (q : Ls) (hj : j < k + 1) (hq : ls[j]? = some q) => show q.fr = false by
          rcases (by omega : j < k ∨ j = k) with h | rfl
          · exact HF.out j q h hq
          · rw [HLK.out] at hq
            obtain rfl := Option.some.inj hq
            exact hf)
        go_wp2_with (go_at_call 163; refine (L1.out _ _ _ _ _).mono ?_; rintro e w2 ⟨rfl, hG⟩)
        go_roundw
        case rel => exact ⟨k + 1, by omega, by go_num, HF2, hid (GR.out.trans hG fun _ _ h => h)⟩
        case measure => simp [intOf]; omega
      · have HK := hid (ffree_at HLK.out hf HF.out)
        go_wp2_with (go_at_call 163; refine (L1.out _ _ _ _ _).mono ?_; rintro e w2 ⟨rfl, hG⟩)
        go_ret
        refine ⟨?_, GR.out.trans hG fun _ _ h => h⟩
        rw [← HVV.out, HK.out, if_pos hlt]
        rfl
    · obtain rfl : k = m := by omega
      have hlt' : ¬ (k : Int) < (k : Int) := by omega
      have HN := hid (ffree_none fun j l h => HF.out j l (by have := (List.getElem?_eq_some_iff.mp h).1; have := HM.out; omega) h)
      go_wp2_with fail
      go_ret
      refine ⟨?_, GR.out⟩
      rw [← HVV.out, if_neg (by rw [HN.out, HM.out]; omega)]
      rfl

end Go.Proofs.Ytopkehknaclhlaa
