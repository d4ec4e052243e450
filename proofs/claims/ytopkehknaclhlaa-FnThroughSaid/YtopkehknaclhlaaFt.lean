/- Steps of small numbers give subnormal ones; flushing; scaling by 1. Conditions: 0 < n < 2^17. -/
import Derived.Test.YtopkehknaclhlaaFd
import Derived.Test.YtopkehknaclhlaaGen
import Derived.Test.YtopkehknaclhlaaIs
namespace Go.Proofs.Ytopkehknaclhlaa
open Go Go.RowKit

theorem u32_low (x : Nat) (h : x < 4294967296) : bits .and .u32 (x : Int) 2147483647 = ((x % 2147483648 : Nat) : Int) := by
  have e : (BitVec.ofInt 32 2147483647).toNat = 2 ^ 31 - 1 := by decide
  have key : (BitVec.ofInt 32 (x : Int) &&& BitVec.ofInt 32 2147483647).toNat = x % 2147483648 := by
    rw [BitVec.toNat_and, BitVec.toNat_ofInt, e, Nat.and_two_pow_sub_one_eq_mod]
    omega
  show IntKind.u32.wrap ((BitVec.ofInt 32 (x : Int) &&& BitVec.ofInt 32 2147483647).toNat : Nat) = _
  rw [key]
  simp [IntKind.wrap, IntKind.signed, IntKind.bits]
  omega

theorem u32_top (x : Nat) (h : x < 4294967296) : bits .and .u32 (x : Int) 2147483648 = ((x / 2147483648 * 2147483648 : Nat) : Int) := by
  have e : (BitVec.ofInt 32 2147483648).toNat = 2 ^ 31 := by decide
  have key : (BitVec.ofInt 32 (x : Int) &&& BitVec.ofInt 32 2147483648).toNat = x / 2147483648 * 2147483648 := by
    rw [BitVec.toNat_and, BitVec.toNat_ofInt, e]
    have e2 : ((x : Int) % ((2 ^ 32 : Nat) : Int)).toNat = x := by omega
    rw [e2]
    rcases (by omega : x / 2147483648 = 0 ∨ x / 2147483648 = 1) with h0 | h1
    · rw [h0]
      have hx : x < 2 ^ 31 := by omega
      apply Nat.eq_of_testBit_eq
      intro j
      rw [Nat.testBit_and]
      by_cases hj : j = 31
      · subst hj
        rw [Nat.testBit_lt_two_pow hx]
        simp
      · rw [Nat.testBit_two_pow_of_ne (by omega)]
        simp
    · rw [h1]
      obtain ⟨y, rfl⟩ : ∃ y, x = 2 ^ 31 + y := ⟨x - 2 ^ 31, by omega⟩
      apply Nat.eq_of_testBit_eq
      intro j
      rw [Nat.testBit_and, Nat.one_mul, show (2147483648 : Nat) = 2 ^ 31 from rfl]
      by_cases hj : j = 31
      · subst hj
        rw [Nat.testBit_two_pow_add_eq, Nat.testBit_two_pow_self, Nat.testBit_lt_two_pow (by omega)]
        rfl
      · rw [Nat.testBit_two_pow_of_ne (by omega)]
        simp
  show IntKind.u32.wrap ((BitVec.ofInt 32 (x : Int) &&& BitVec.ofInt 32 2147483648).toNat : Nat) = _
  rw [key]
  simp [IntKind.wrap, IntKind.signed, IntKind.bits]
  omega

set_option maxHeartbeats 400000 in
theorem IsSubnormal_yes (w : World) (x : Nat) (h : x < 4294967296) (h1 : 0 < x % 2147483648) (h2 : x % 2147483648 < 8388608) : Calls Try.prog 199 #[.float .f32 x] w (fun e w' => e = .returned (.bool true) ∧ w = w') := by
  have hx := @run_f32bits
  have e1 := u32_low x h
  have a1 : (0 : Int) < ((x % 2147483648 : Nat) : Int) := by omega
  have a2 : ((x % 2147483648 : Nat) : Int) < 8388608 := by omega
  generalize (x % 2147483648) = y at *
  go_enter Try.func199, Try.ntmps199
  go_wp2
  go_ret
  exact ⟨rfl, rfl⟩

set_option maxHeartbeats 400000 in
theorem IsSubnormal_no (w : World) (x : Nat) (h : x < 4294967296) (h1 : ¬ (0 < x % 2147483648 ∧ x % 2147483648 < 8388608)) : Calls Try.prog 199 #[.float .f32 x] w (fun e w' => e = .returned (.bool false) ∧ w = w') := by
  have hx := @run_f32bits
  have e1 := u32_low x h
  by_cases h0 : 0 < x % 2147483648
  · have a1 : (0 : Int) < ((x % 2147483648 : Nat) : Int) := by omega
    have a2 : ¬ ((x % 2147483648 : Nat) : Int) < 8388608 := by omega
    clear h0 h1
    generalize ((x % 2147483648 : Nat) : Int) = y at *
    go_enter Try.func199, Try.ntmps199
    go_wp2
    go_ret
    exact ⟨rfl, rfl⟩
  · have a1 : ¬ (0 : Int) < ((x % 2147483648 : Nat) : Int) := by omega
    clear h0 h1
    generalize ((x % 2147483648 : Nat) : Int) = y at *
    go_enter Try.func199, Try.ntmps199
    go_wp2
    go_ret
    exact ⟨rfl, rfl⟩

/-- What flushing gives. -/
def flush (x : Nat) : Nat := if 0 < x % 2147483648 ∧ x % 2147483648 < 8388608 then x / 2147483648 * 2147483648 else x

set_option maxHeartbeats 400000 in
theorem FlushSmall_calls (w : World) (x : Nat) (h : x < 4294967296) : Calls Try.prog 186 #[.float .f32 x] w (fun e w' => e = .returned (.float .f32 (flush x)) ∧ w = w') := by
  by_cases hs : 0 < x % 2147483648 ∧ x % 2147483648 < 8388608
  · have hf : flush x = x / 2147483648 * 2147483648 := by unfold flush; rw [if_pos hs]
    rw [hf]
    have HS := hid hs
    have H := hid h
    have hx := @run_f32bits
    have hy := @run_f32frombits
    have e1 := u32_top x h
    clear hs h hf
    generalize (x / 2147483648 * 2147483648) = y at *
    go_enter Try.func186, Try.ntmps186
    go_wp2_with (go_at_call 199; refine (IsSubnormal_yes _ _ H.out HS.out.1 HS.out.2).mono ?_; rintro e w' ⟨rfl, rfl⟩)
    go_ret
    exact ⟨rfl, rfl⟩
  · have hf : flush x = x := by unfold flush; rw [if_neg hs]
    rw [hf]
    have HS := hid hs
    have H := hid h
    clear hs h hf
    go_enter Try.func186, Try.ntmps186
    go_wp2_with (go_at_call 199; refine (IsSubnormal_no _ _ H.out HS.out).mono ?_; rintro e w' ⟨rfl, rfl⟩)
    go_ret
    exact ⟨rfl, rfl⟩

set_option maxHeartbeats 400000 in
theorem scaled_calls (w : World) (x y l u v : Nat) (hu : floatBits .mul .f32 x l = some u) (hv : floatBits .mul .f32 y l = some v) (lu : u < 4294967296) (lv : v < 4294967296) :
    Calls Try.prog 156 #[.complex .f32 x y, .float .f32 l] w (fun e w' => e = .returned (.complex .f32 (flush u) (flush v)) ∧ w = w') := by
  have c1 := fun w => fbin_of hu w
  have c2 := fask_of hu
  have c3 := fun w => fbin_of hv w
  have c4 := fask_of hv
  have LU := hid lu
  have LV := hid lv
  clear hu hv lu lv
  go_enter Try.func156, Try.ntmps156
  go_wp2_with fail
  refine (FlushSmall_calls _ _ LU.out).mono ?_
  rintro e w' ⟨rfl, rfl⟩
  go_wp2_with fail
  refine (FlushSmall_calls _ _ LV.out).mono ?_
  rintro e w' ⟨rfl, rfl⟩
  go_wp2_with fail
  go_ret
  exact ⟨rfl, rfl⟩

set_option maxHeartbeats 1000000 in
theorem FromSteps_up (w : World) (n : Nat) (h : Sm n) : Calls Try.prog 65 #[.int .i64 (n : Int)] w (fun e w' => e = .returned (.tuple #[.float .f32 (Ieee.single.word false n), .bool true]) ∧ w = w') := by
  have H := hid h
  have l0 : (0 : Int) < (n : Int) := by have := h.1; omega
  have l1 : (n : Int) < 131072 := by have := h.2; omega
  have l2 : ¬ (16777216 : Int) ≤ (n : Int) := by omega
  have l3 : ¬ ((n : Int) < 0) := by omega
  have c0 := floatOfInt_dz h
  clear h
  generalize (n : Int) = k at *
  go_enter Try.func65, Try.ntmps65
  go_wp2_with (go_at_call 85; refine (l1In_yes _ _ _ _ (by omega) (by omega)).mono ?_; rintro e w' ⟨rfl, rfl⟩)
  go_loop [4, 5] (fun u e => u = .int .i64 k ∧ e = .int .i64 0) (fun _ _ => 0)
  case atStart => exact ⟨by first | rfl | go_num, rfl⟩
  case round =>
    obtain ⟨rfl, rfl⟩ := hrel
    go_wp2
    go_loop [6, 7] (fun y i => ∃ j : Nat, j ≤ 149 ∧ y = .float .f64 (dz false n j) ∧ i = .int .i64 (j : Int)) (fun _ i => 149 - (intOf i).toNat)
    case atStart => exact ⟨0, by omega, rfl, rfl⟩
    case round =>
      obtain ⟨j, hj, rfl, rfl⟩ := hrel
      by_cases hlt : j < 149
      · have hlt' : (j : Int) < 149 := by omega
        have q1 := fun w => fbin_of (quo_dz H.out hlt) w
        have q2 := fask_of (quo_dz H.out hlt)
        go_wp2
        go_round
        case rel => exact ⟨j + 1, by omega, rfl, by go_num⟩
        case measure => simp [intOf]; omega
      · obtain rfl : j = 149 := by omega
        have q1 := fun w => fconv_of (conv_down (s := false) H.out) w
        have q2 := fconvAsk_of (conv_down (s := false) H.out)
        go_wp2
        go_loop [5, 6] (fun e y => e = .int .i64 0 ∧ y = .float .f64 (dz false n 149)) (fun _ _ => 0)
        case atStart => exact ⟨rfl, rfl⟩
        case round =>
          obtain ⟨rfl, rfl⟩ := hrel
          go_wp2
          go_ret2
          exact ⟨rfl, rfl⟩

set_option maxHeartbeats 1000000 in
theorem FromSteps_down (w : World) (n : Nat) (h : Sm n) : Calls Try.prog 65 #[.int .i64 (-(n : Int))] w (fun e w' => e = .returned (.tuple #[.float .f32 (Ieee.single.word true n), .bool true]) ∧ w = w') := by
  have H := hid h
  have l0 : (0 : Int) < (n : Int) := by have := h.1; omega
  have l1 : (n : Int) < 131072 := by have := h.2; omega
  have l2 : ¬ (16777216 : Int) ≤ (n : Int) := by omega
  have l3 : -(n : Int) < 0 := by omega
  have l4 : -(n : Int) < (n : Int) := by omega
  have c0 := floatOfInt_dz h
  have c1 := neg_dz h (show 149 ≤ 149 by omega)
  clear h
  generalize (n : Int) = k at *
  go_enter Try.func65, Try.ntmps65
  go_wp2_with (go_at_call 85; refine (l1In_yes _ _ _ _ (by omega) (by omega)).mono ?_; rintro e w' ⟨rfl, rfl⟩)
  go_loop [4, 5] (fun u e => u = .int .i64 k ∧ e = .int .i64 0) (fun _ _ => 0)
  case atStart => exact ⟨by first | rfl | go_num, rfl⟩
  case round =>
    obtain ⟨rfl, rfl⟩ := hrel
    go_wp2
    go_loop [6, 7] (fun y i => ∃ j : Nat, j ≤ 149 ∧ y = .float .f64 (dz false n j) ∧ i = .int .i64 (j : Int)) (fun _ i => 149 - (intOf i).toNat)
    case atStart => exact ⟨0, by omega, rfl, rfl⟩
    case round =>
      obtain ⟨j, hj, rfl, rfl⟩ := hrel
      by_cases hlt : j < 149
      · have hlt' : (j : Int) < 149 := by omega
        have q1 := fun w => fbin_of (quo_dz H.out hlt) w
        have q2 := fask_of (quo_dz H.out hlt)
        go_wp2
        go_round
        case rel => exact ⟨j + 1, by omega, rfl, by go_num⟩
        case measure => simp [intOf]; omega
      · obtain rfl : j = 149 := by omega
        have q1 := fun w => fconv_of (conv_down (s := true) H.out) w
        have q2 := fconvAsk_of (conv_down (s := true) H.out)
        go_wp2
        go_loop [5, 6] (fun e y => e = .int .i64 0 ∧ y = .float .f64 (dz false n 149)) (fun _ _ => 0)
        case atStart => exact ⟨rfl, rfl⟩
        case round =>
          obtain ⟨rfl, rfl⟩ := hrel
          go_wp2
          go_ret2
          exact ⟨rfl, rfl⟩
end Go.Proofs.Ytopkehknaclhlaa
