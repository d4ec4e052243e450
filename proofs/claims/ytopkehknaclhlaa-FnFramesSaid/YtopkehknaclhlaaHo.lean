/- A bare module, holds, and the law on NewHold, walked. Conditions: as each says; the law: none. -/
import Derived.Test.YtopkehknaclhlaaCn
namespace Go.Proofs.Ytopkehknaclhlaa
open Go Go.RowKit

set_option maxHeartbeats 400000 in
theorem isNoughts_zero (w : World) : Calls Try.prog 151 #[.complex .f32 0 0] w (fun e w' => e = .returned (.bool true) ∧ w = w') := by
  go_enter Try.func151, Try.ntmps151
  go_wp2_with (go_at_call 153; refine (isNought_calls _ 0).mono ?_; rintro e w' ⟨rfl, rfl⟩)
  go_ret
  exact ⟨rfl, rfl⟩

set_option maxHeartbeats 1000000 in
theorem isBare_zero (w : World) (k : Int) : Calls Try.prog 154 #[.agg #[.int .i64 (k), .complex .f32 0 0, .complex .f32 0 0, .float .f32 0, .slice none 0 0, .int .i64 (0), .int .i64 (0), .slice none 0 0, .slice none 0 0, .int .i64 (0), .int .i64 (0)]] w (RT w) := by
  go_enter Try.func154, Try.ntmps154
  go_wp2_with (first | (go_at_call 151; refine (isNoughts_zero _).mono ?_; rintro e w' ⟨rfl, rfl⟩) | (go_at_call 153; refine (isNought_calls _ 0).mono ?_; rintro e w' ⟨rfl, rfl⟩))
  go_ret
  exact ⟨rfl, (Chg.refl _ w).alloc _⟩

/-- False; new blocks alone. -/
def RFalse (w : World) (e : Ending) (w' : World) : Prop := e = .returned (.bool false) ∧ Chg (fun _ => False) w w'

set_option maxHeartbeats 2000000 in
theorem IsModule_hold (w : World) (s1 s2 : Nat) (ct lf : Int) (h1 : 1 ≤ ct) (h2 : ct ≤ 100) (h3 : 0 ≤ lf) (h4 : lf < ct) : Calls Try.prog 121 #[.agg #[.int .i64 (8), .complex .f32 0 0, .complex .f32 s1 s2, .float .f32 0, .slice none 0 0, .int .i64 (0), .int .i64 (0), .slice none 0 0, .slice none 0 0, .int .i64 (ct), .int .i64 (lf)]] w (RT w) := by
  go_enter Try.func121, Try.ntmps121
  go_wp2_with (go_at_call 154; refine (isBare_zero _ 8).mono ?_; rintro e w1 ⟨rfl, g1⟩)
  go_ret
  refine ⟨rfl, Chg.trans ?_ g1 fun _ _ h => h⟩
  repeat (first | (with_reducible exact Chg.refl _ _) | (with_reducible refine Chg.alloc ?_ _) | (with_reducible refine Chg.setCell ?_ ?_ _; rotate_left; exact .inr (by simp)))

set_option maxHeartbeats 2000000 in
theorem IsModule_hold_no (w : World) (ct : Int) (h : ¬ (1 ≤ ct ∧ ct ≤ 100)) : Calls Try.prog 121 #[.agg #[.int .i64 (8), .complex .f32 0 0, .complex .f32 0 0, .float .f32 0, .slice none 0 0, .int .i64 (0), .int .i64 (0), .slice none 0 0, .slice none 0 0, .int .i64 (ct), .int .i64 (0)]] w (RFalse w) := by
  by_cases h1 : 1 ≤ ct
  · have h2 : ¬ ct ≤ 100 := by omega
    clear h
    go_enter Try.func121, Try.ntmps121
    go_wp2_with fail
    go_ret
    refine ⟨rfl, ?_⟩
    repeat (first | (with_reducible exact Chg.refl _ _) | (with_reducible refine Chg.alloc ?_ _) | (with_reducible refine Chg.setCell ?_ ?_ _; rotate_left; exact .inr (by simp)))
  · clear h
    go_enter Try.func121, Try.ntmps121
    go_wp2_with fail
    go_ret
    refine ⟨rfl, ?_⟩
    repeat (first | (with_reducible exact Chg.refl _ _) | (with_reducible refine Chg.alloc ?_ _) | (with_reducible refine Chg.setCell ?_ ?_ _; rotate_left; exact .inr (by simp)))
end Go.Proofs.Ytopkehknaclhlaa
