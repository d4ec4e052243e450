/- The reference: a valid pool is one; is a lease lent; how much is free. Conditions: the pool is valid. -/
import Derived.Test.YtopkehknaclhlaaPc
namespace Go.Proofs.Ytopkehknaclhlaa
open Go Go.RowKit

/-- What does not change the world, and returns. -/
def RVal (w : World) (v : Value) (e : Ending) (w' : World) : Prop := e = .returned v ∧ Chg (fun _ => False) w w'

theorem cov_le {n : Nat} {ls : List Ls} (hp : POk n ls) (i : Nat) : cov ls i ≤ 1 := by
  rw [cov_eq i hp.dj]
  split <;> omega

set_option maxRecDepth 100000 in
set_option maxHeartbeats 4000000 in
theorem IsPoolS_calls (w : World) (s v : Value) (xs : List (Nat × Nat)) (ls : List Ls) (ho : OwnC w 0 s xs) (hv : OwnL w 0 v ls) (hp : POk xs.length ls) :
    Calls Try.prog 55 #[.agg #[s, v]] w (RVal w (.bool true)) := by
  obtain ⟨a, c, rfl⟩ := ho.form
  obtain ⟨a2, c2, rfl⟩ := hv.form
  have n256 := hp.nle
  have m16 := hp.len
  have A1 := (Chg.refl (fun _ => False) w).alloc (.cells #[.slice a xs.length c, .slice a2 ls.length c2] 67)
  have HT := hid (l3Taken_calls _ _ _ xs ls (ho.chg A1 fun _ _ _ h => h) (hv.chg A1 fun _ _ _ h => h) hp)
  have HB := hid (heap_new w (.cells #[.slice a xs.length c, .slice a2 ls.length c2] 67))
  have GA := hid A1
  have HC := hid (fun i => cov_le hp i)
  clear A1 ho hv hp
  generalize xs.length = n at *
  generalize ls.length = m at *
  have b1 : decide ((256 : Int) < (n : Int)) = false := by simp; omega
  have b2 : decide ((16 : Int) < (m : Int)) = false := by simp; omega
  go_enter Try.func55, Try.ntmps55
  go_wp2_with (go_at_call 112; refine HT.out.mono ?_; rintro e w2 ⟨b, cb, rfl, hT, hG⟩)
  have HL := hid hT
  have G2 := hid (GA.out.trans hG fun k hk e => e)
  clear hG HT GA hT
  go_loopw [24] (fun i wr => ∃ (k : Nat), k ≤ n ∧ i = .int .i64 (k : Int) ∧ wr = w2) (fun i _ => n - (intOf i).toNat)
  case atStart => exact ⟨0, by omega, rfl, rfl⟩
  case round =>
    obtain ⟨k, hk, rfl, rfl⟩ := hrel
    by_cases hlt : k < n
    · have hlt' : (k : Int) < (n : Int) := by omega
      obtain ⟨g, cc, cur, hv2, hg0, hg1, hgc, hgh, z, hz, hcz⟩ := OwnN.int HL.out (tl_len n _) hlt
      simp at hv2
      obtain ⟨rfl, rfl⟩ := hv2
      rw [tl_get n _ hlt] at hz
      have hz1 : ¬ (1 : Int) < z := by
        have := HC.out k
        have := Option.some.inj hz
        omega
      clear hz hgh
      go_wp2_with fail
      go_roundw
      case rel => exact ⟨k + 1, by omega, by go_num, trivial⟩
      case measure => simp [intOf]; omega
    · obtain rfl : k = n := by omega
      have hlt' : ¬ (k : Int) < (k : Int) := by omega
      go_wp2_with fail
      go_ret
      exact ⟨rfl, G2.out⟩
end Go.Proofs.Ytopkehknaclhlaa
