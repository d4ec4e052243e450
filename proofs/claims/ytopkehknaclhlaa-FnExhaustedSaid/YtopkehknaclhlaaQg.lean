/- Sorting nothing. Conditions: the slice is empty. -/
import Derived.Test.YtopkehknaclhlaaQe
import Derived.LoopN
namespace Go.Proofs.Ytopkehknaclhlaa
open Go Go.RowKit

set_option maxHeartbeats 1000000 in
theorem ins0_calls (w : World) (a : Option Addr) (c : Nat) (F : Value) :
    Calls Try.prog 170 #[.slice a 0 c, .int .i64 0, .int .i64 0, F] w (fun e w' => e = .returned (.tuple #[]) ∧ w' = w) := by
  go_enter Try.func170, Try.ntmps170
  go_wp2_with fail
  refine wp_loop_rounds 1 ?_
  rw [rounds_succ]
  go_wp2_with fail
  go_end0
  exact ⟨rfl, rfl⟩

set_option maxHeartbeats 1000000 in
theorem pdq0_calls (w : World) (a : Option Addr) (c : Nat) (l : Int) (F : Value) :
    Calls Try.prog 145 #[.slice a 0 c, .int .i64 0, .int .i64 0, .int .i64 l, F] w (fun e w' => e = .returned (.tuple #[]) ∧ w' = w) := by
  go_enter Try.func145, Try.ntmps145
  go_wp2_with fail
  refine wp_loop_rounds 1 ?_
  rw [rounds_succ]
  go_wp2_with (go_at_call 170; refine (ins0_calls _ _ _ _).mono ?_; rintro e w' ⟨rfl, rfl⟩)
  refine bodyPost_ret (v := .tuple #[]) (by simp [results, Try.results145]) rfl ⟨rfl, rfl⟩

set_option maxRecDepth 100000 in
set_option maxHeartbeats 1000000 in
theorem Len64_0 (w : World) : Calls Try.prog 179 #[.int .u64 0] w (fun e w' => (∃ l : Int, e = .returned (.int .i64 l)) ∧ w' = w) := by
  go_enter Try.func179, Try.ntmps179
  go_wp2_with fail
  go_ret
  exact ⟨⟨_, rfl⟩, rfl⟩

set_option maxHeartbeats 1000000 in
theorem Len_0 (w : World) : Calls Try.prog 146 #[.int .u64 0] w (fun e w' => (∃ l : Int, e = .returned (.int .i64 l)) ∧ w' = w) := by
  go_enter Try.func146, Try.ntmps146
  go_wp2_with (go_at_call 179; refine (Len64_0 _).mono ?_; rintro e w' ⟨⟨l, rfl⟩, rfl⟩)
  go_ret
  exact ⟨⟨_, rfl⟩, rfl⟩

set_option maxHeartbeats 1000000 in
theorem SortFunc_0 (w : World) (a : Option Addr) (c : Nat) (F : Value) :
    Calls Try.prog 108 #[.slice a 0 c, F] w (fun e w' => e = .returned (.tuple #[]) ∧ w' = w) := by
  go_enter Try.func108, Try.ntmps108
  go_wp2_with (first
    | (go_at_call 146; refine (Len_0 _).mono ?_; rintro e w' ⟨⟨l, rfl⟩, rfl⟩)
    | (go_at_call 145; refine (pdq0_calls _ _ _ _ _).mono ?_; rintro e w' ⟨rfl, rfl⟩))
  go_end0
  exact ⟨rfl, rfl⟩
end Go.Proofs.Ytopkehknaclhlaa
