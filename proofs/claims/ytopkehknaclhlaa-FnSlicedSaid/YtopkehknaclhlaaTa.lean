/- The decimal text of an integer: there is one, whatever the world. Conditions: below 10^9. -/
import Derived.Test.YtopkehknaclhlaaSm
import Derived.Laws.IdiomStrings
import Derived.Laws.Concat
import Derived.Deep.Cut
namespace Go.Proofs.Ytopkehknaclhlaa
open Go Go.RowKit

def dg (k : Nat) : ByteArray := ⟨#[UInt8.ofNat (48 + k % 10)]⟩
theorem dg_size (k : Nat) : (dg k).size = 1 := rfl
def numF : Nat → Nat → ByteArray → ByteArray
  | 0, _, acc => acc
  | f + 1, k, acc => if k = 0 then acc else numF f (k / 10) (dg k ++ acc)
theorem numF_size : ∀ (f k : Nat) (acc : ByteArray), (numF f k acc).size ≤ acc.size + f
  | 0, _, acc => Nat.le_refl _
  | f + 1, k, acc => by
    unfold numF
    split
    · omega
    · have := numF_size f (k / 10) (dg k ++ acc)
      rw [ByteArray.size_append, dg_size] at this
      omega
theorem add_run (a b : ByteArray) (w : World) (h : a.size + b.size ≤ 9223372036854775807) : (Op.stringOp .add a b).run Try.prog w = .ok (.string (a ++ b)) w := run_string_add_sum (P := Try.prog) w a b h
theorem dg_run (w : World) (k : Nat) : (convert 47 9 (.slice (some ⟨w.heap.size, 0, none⟩) 1 1)).run Try.prog (w.alloc (.cells #[.int .u8 (48 + (k : Int) % 10)] 5)) = .ok (.string (dg k)) (w.alloc (.cells #[.int .u8 (48 + (k : Int) % 10)] 5)) := by
  have h := run_convert_bytes_back (P := Try.prog) (w.alloc (.cells #[.int .u8 (48 + (k : Int) % 10)] 5)) 47 9 5 ⟨w.heap.size, 0, none⟩ 1 [UInt8.ofNat (48 + k % 10)] Try.underlying47 Try.underlying5 Try.underlying9 (fun j hj => by
    obtain rfl : j = 0 := by simpa using hj
    have e : ((UInt8.ofNat (48 + k % 10)).toNat : Int) = 48 + (k : Int) % 10 := by
      rw [UInt8.toNat_ofNat']
      omega
    show _ = some (Value.int .u8 ((UInt8.ofNat (48 + k % 10)).toNat : Int))
    rw [e]
    exact cell_at (heap_new w _))
  exact h

set_option maxRecDepth 100000 in
set_option maxHeartbeats 1000000 in
theorem Number_nat (n : Nat) (hn : n < 1000000000) (w : World) : Calls Try.prog 148 #[.int .i64 (n : Int)] w (fun e w' => e = .returned (.string (numF 17 (n / 10) (dg n))) ∧ Chg (fun _ => False) w w') := by
  have hdg := fun (w : World) (k : Nat) => dg_run w k
  obtain ⟨T, hT⟩ : ∃ T, T = numF 17 (n / 10) (dg n) := ⟨_, rfl⟩
  rw [← hT]
  have HT := hid hT
  have HC := hid ((Chg.refl (fun _ => False) w).alloc (.cells #[.int .u8 (48 + (n : Int) % 10)] 5))
  clear hT
  go_enter Try.func148, Try.ntmps148
  go_upto_region 4 with fail
  generalize w.alloc (.cells #[.int .u8 (48 + (n : Int) % 10)] 5) = w1 at *
  go_wp2_with fail
  go_loopw [0, 3] (fun x s wr => ∃ (d k : Nat) (acc : ByteArray), x = .int .i64 (k : Int) ∧ s = .string acc ∧ k ≤ n ∧ k < 10 ^ d ∧ acc.size + d ≤ 18 ∧ Hid (T = numF d k acc) ∧ Hid (Chg (fun _ => False) w wr)) (fun x _ _ => (intOf x).toNat)
  case atStart => exact ⟨17, n / 10, dg n, by first | rfl | (congr 1), rfl, by omega, by omega, by rw [dg_size]; omega, HT, HC⟩
  case round =>
    obtain ⟨d, k, acc, rfl, rfl, hk9, hk, hsz, HD, HG⟩ := hrel
    clear HT HC
    by_cases h0 : k = 0
    · subst h0
      have e : T = acc := by
        rw [HD.out]
        cases d <;> rfl
      subst e
      go_wp2_with fail
      go_ret
      exact ⟨rfl, HG.out⟩
    · cases d with
      | zero => omega
      | succ d =>
        have hpos : (0 : Int) < (k : Int) := by omega
        have hadd := fun w => add_run (dg k) acc w (by rw [dg_size]; omega)
        have HN := hid (show T = numF d (k / 10) (dg k ++ acc) from by
          rw [HD.out]
          show (if k = 0 then acc else numF d (k / 10) (dg k ++ acc)) = _
          rw [if_neg h0])
        have hk2 : k / 10 < 10 ^ d := by
          rw [Nat.pow_succ] at hk
          omega
        have HG2 := hid (HG.out.alloc (.cells #[.int .u8 (48 + (k : Int) % 10)] 5))
        have HK9 := hid hk9
        have HK2 := hid hk2
        have HSZ := hid hsz
        clear HD HG hk hk9 hk2 hsz
        go_wp2_with fail
        go_roundw
        have hk9 := HK9.out
        have hsz := HSZ.out
        have hw : wrap64 ((k : Int) / 10) = ((k / 10 : Nat) : Int) := by rw [Go.IntWalk.wrap64_in _ (by omega)]; omega
        case rel => exact ⟨d, k / 10, dg k ++ acc, by rw [hw], rfl, by omega, HK2.out, by rw [ByteArray.size_append, dg_size]; omega, HN, HG2⟩
        case measure =>
          have hk9 := HK9.out
          have hw : wrap64 ((k : Int) / 10) = ((k / 10 : Nat) : Int) := by rw [Go.IntWalk.wrap64_in _ (by omega)]; omega
          rw [hw]
          simp only [intOf]
          omega

/-- The text of an integer. -/
def numT (n : Int) : ByteArray := if n < 0 then ⟨#[45]⟩ ++ numF 17 (n.natAbs / 10) (dg n.natAbs) else numF 17 (n.natAbs / 10) (dg n.natAbs)
theorem numT_size (n : Int) : (numT n).size ≤ 19 := by
  have h := numF_size 17 (n.natAbs / 10) (dg n.natAbs)
  rw [dg_size] at h
  unfold numT
  split
  · rw [ByteArray.size_append]
    have : (⟨#[45]⟩ : ByteArray).size = 1 := rfl
    omega
  · omega
theorem Number_calls (n : Int) (h1 : -1000000000 < n) (h2 : n < 1000000000) (w : World) : Calls Try.prog 148 #[.int .i64 n] w (fun e w' => e = .returned (.string (numT n)) ∧ Chg (fun _ => False) w w') := by
  by_cases hneg : n < 0
  · obtain ⟨k, rfl⟩ : ∃ k : Nat, n = -(k : Int) := ⟨n.natAbs, by omega⟩
    have hT : numT (-(k : Int)) = ⟨#[45]⟩ ++ numF 17 (k / 10) (dg k) := by
      unfold numT
      rw [if_pos hneg, show (-(k : Int)).natAbs = k by omega]
    rw [hT]
    have hsz := numF_size 17 (k / 10) (dg k)
    rw [dg_size] at hsz
    have hcall := fun w => Number_nat k (by omega) w
    have hadd := fun w => add_run ⟨#[45]⟩ (numF 17 (k / 10) (dg k)) w (by have : (⟨#[45]⟩ : ByteArray).size = 1 := rfl; omega)
    generalize numF 17 (k / 10) (dg k) = T at *
    clear hT hsz
    go_enter Try.func148, Try.ntmps148
    go_wp2_with fail
    refine (hcall _).mono ?_
    rintro e w1 ⟨rfl, hG⟩
    go_wp2_with fail
    go_ret
    exact ⟨rfl, hG⟩
  · obtain ⟨k, rfl⟩ : ∃ k : Nat, n = (k : Int) := ⟨n.natAbs, by omega⟩
    have hT : numT (k : Int) = numF 17 (k / 10) (dg k) := by
      unfold numT
      rw [if_neg hneg]
      rfl
    rw [hT]
    exact Number_nat k (by omega) w
end Go.Proofs.Ytopkehknaclhlaa
