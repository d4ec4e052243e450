/- Gains, sums and holds: tested and stepped. Conditions: as each says. -/
import Derived.Test.YtopkehknaclhlaaSt
import Derived.Test.YtopkehknaclhlaaFt
namespace Go.Proofs.Ytopkehknaclhlaa
open Go Go.RowKit

set_option maxHeartbeats 2000000 in
theorem IsModule_gain (w : World) (lv : Nat) : Calls Try.prog 121 #[.agg #[.int .i64 (3), .complex .f32 0 0, .complex .f32 0 0, .float .f32 lv, .slice none 0 0, .int .i64 (0), .int .i64 (0), .slice none 0 0, .slice none 0 0, .int .i64 (0), .int .i64 (0)]] w (RT w) := by
  go_enter Try.func121, Try.ntmps121
  go_wp2_with (go_at_call 154; refine (isBare_zero _ 3).mono ?_; rintro e w1 ⟨rfl, g1⟩)
  go_ret
  refine ⟨rfl, Chg.trans ?_ g1 fun _ _ h => h⟩
  repeat (first | (with_reducible exact Chg.refl _ _) | (with_reducible refine Chg.alloc ?_ _) | (with_reducible refine Chg.setCell ?_ ?_ _; rotate_left; exact .inr (by simp)))

set_option maxHeartbeats 2000000 in
theorem IsModule_sum (w : World) : Calls Try.prog 121 #[.agg #[.int .i64 (5), .complex .f32 0 0, .complex .f32 0 0, .float .f32 0, .slice none 0 0, .int .i64 (0), .int .i64 (0), .slice none 0 0, .slice none 0 0, .int .i64 (0), .int .i64 (0)]] w (RT w) := by
  go_enter Try.func121, Try.ntmps121
  go_wp2_with (go_at_call 154; refine (isBare_zero _ 5).mono ?_; rintro e w1 ⟨rfl, g1⟩)
  go_ret
  refine ⟨rfl, Chg.trans ?_ g1 fun _ _ h => h⟩
  repeat (first | (with_reducible exact Chg.refl _ _) | (with_reducible refine Chg.alloc ?_ _) | (with_reducible refine Chg.setCell ?_ ?_ _; rotate_left; exact .inr (by simp)))

set_option maxRecDepth 100000 in
set_option maxHeartbeats 2000000 in
theorem step_gain (w : World) (b lv z1 z2 u v : Nat) (hu : floatBits .mul .f32 z1 lv = some u) (hv : floatBits .mul .f32 z2 lv = some v) (lu : u < 4294967296) (lw : v < 4294967296) (hb : w.heap[b]? = some (.cells #[.int .i64 (3), .complex .f32 0 0, .complex .f32 0 0, .float .f32 lv, .slice none 0 0, .int .i64 (0), .int .i64 (0), .slice none 0 0, .slice none 0 0, .int .i64 (0), .int .i64 (0)] 38 (0, 0))) :
    Calls Try.prog 123 #[.pointer (some ⟨b, 0, none⟩), .complex .f32 z1 z2] w (fun e w' => e = .returned (.complex .f32 (flush u) (flush v)) ∧ w'.heap[b]? = some (.cells #[.int .i64 (3), .complex .f32 0 0, .complex .f32 0 0, .float .f32 lv, .slice none 0 0, .int .i64 (0), .int .i64 (0), .slice none 0 0, .slice none 0 0, .int .i64 (0), .int .i64 (0)] 38 (0, 0)) ∧ Chg (fun k => k = b) w w') := by
  have HB := hid hb
  have HU := hid hu
  have HV := hid hv
  have kb := cells_at hb
  clear hb hu hv
  go_enter Try.func123, Try.ntmps123
  go_wp2_with (go_at_call 156; refine (scaled_calls _ _ _ _ _ _ HU.out HV.out lu lw).mono ?_; rintro e w' ⟨rfl, rfl⟩)
  go_ret
  exact ⟨rfl, HB.out, Chg.refl _ w⟩

set_option maxRecDepth 100000 in
set_option maxHeartbeats 2000000 in
theorem step_sum (w : World) (b z1 z2 : Nat) (hb : w.heap[b]? = some (.cells #[.int .i64 (5), .complex .f32 0 0, .complex .f32 0 0, .float .f32 0, .slice none 0 0, .int .i64 (0), .int .i64 (0), .slice none 0 0, .slice none 0 0, .int .i64 (0), .int .i64 (0)] 38 (0, 0))) :
    Calls Try.prog 123 #[.pointer (some ⟨b, 0, none⟩), .complex .f32 z1 z2] w (fun e w' => e = .returned (.complex .f32 z1 z2) ∧ w'.heap[b]? = some (.cells #[.int .i64 (5), .complex .f32 0 0, .complex .f32 0 0, .float .f32 0, .slice none 0 0, .int .i64 (0), .int .i64 (0), .slice none 0 0, .slice none 0 0, .int .i64 (0), .int .i64 (0)] 38 (0, 0)) ∧ Chg (fun k => k = b) w w') := by
  have HB := hid hb
  have kb := cells_at hb
  clear hb
  go_enter Try.func123, Try.ntmps123
  go_wp2
  go_ret
  exact ⟨rfl, HB.out, Chg.refl _ w⟩

set_option maxRecDepth 100000 in
set_option maxHeartbeats 2000000 in
theorem step_hold (w : World) (b s1 s2 z1 z2 : Nat) (hb : w.heap[b]? = some (.cells #[.int .i64 (8), .complex .f32 0 0, .complex .f32 s1 s2, .float .f32 0, .slice none 0 0, .int .i64 (0), .int .i64 (0), .slice none 0 0, .slice none 0 0, .int .i64 (3), .int .i64 (0)] 38 (0, 0))) :
    Calls Try.prog 123 #[.pointer (some ⟨b, 0, none⟩), .complex .f32 z1 z2] w (fun e w' => e = .returned (.complex .f32 z1 z2) ∧ w'.heap[b]? = some (.cells #[.int .i64 (8), .complex .f32 0 0, .complex .f32 z1 z2, .float .f32 0, .slice none 0 0, .int .i64 (0), .int .i64 (0), .slice none 0 0, .slice none 0 0, .int .i64 (3), .int .i64 (2)] 38 (0, 0)) ∧ Chg (fun k => k = b) w w') := by
  have HB := hid hb
  have kb := cells_at hb
  have fb := frees_at hb
  clear hb
  go_enter Try.func123, Try.ntmps123
  go_wp2
  go_ret
  refine ⟨rfl, ?_, ?_⟩
  · have e := heap_set (v := .int .i64 2) (k := 10) (heap_set (v := .int .i64 3) (k := 10) (heap_set (v := .complex .f32 z1 z2) (k := 2) HB.out))
    simpa using e
  · repeat (first | (with_reducible exact Chg.refl _ _) | (with_reducible refine Chg.setCell ?_ ?_ _; rotate_left; exact .inl rfl))

theorem StepModule_gain (w : World) (lv z1 z2 u v : Nat) (hu : floatBits .mul .f32 z1 lv = some u) (hv : floatBits .mul .f32 z2 lv = some v) (lu : u < 4294967296) (lw : v < 4294967296) : Calls Try.prog 66 #[.agg #[.int .i64 (3), .complex .f32 0 0, .complex .f32 0 0, .float .f32 lv, .slice none 0 0, .int .i64 (0), .int .i64 (0), .slice none 0 0, .slice none 0 0, .int .i64 (0), .int .i64 (0)], .complex .f32 z1 z2] w (RStep w #[.int .i64 (3), .complex .f32 0 0, .complex .f32 0 0, .float .f32 lv, .slice none 0 0, .int .i64 (0), .int .i64 (0), .slice none 0 0, .slice none 0 0, .int .i64 (0), .int .i64 (0)] (flush u) (flush v)) :=
  StepModule_flat w 3 0 0 0 0 lv 0 0 z1 z2 0 0 0 0 lv 0 0 (flush u) (flush v) (fun w' => IsModule_gain w' lv) (fun w' b hb => step_gain w' b lv z1 z2 u v hu hv lu lw hb)
theorem StepModule_sum (w : World) (z1 z2 : Nat) : Calls Try.prog 66 #[.agg #[.int .i64 (5), .complex .f32 0 0, .complex .f32 0 0, .float .f32 0, .slice none 0 0, .int .i64 (0), .int .i64 (0), .slice none 0 0, .slice none 0 0, .int .i64 (0), .int .i64 (0)], .complex .f32 z1 z2] w (RStep w #[.int .i64 (5), .complex .f32 0 0, .complex .f32 0 0, .float .f32 0, .slice none 0 0, .int .i64 (0), .int .i64 (0), .slice none 0 0, .slice none 0 0, .int .i64 (0), .int .i64 (0)] z1 z2) :=
  StepModule_flat w 5 0 0 0 0 0 0 0 z1 z2 0 0 0 0 0 0 0 z1 z2 (fun w' => IsModule_sum w') (fun w' b hb => step_sum w' b z1 z2 hb)
theorem StepModule_hold (w : World) (z1 z2 : Nat) : Calls Try.prog 66 #[.agg #[.int .i64 (8), .complex .f32 0 0, .complex .f32 0 0, .float .f32 0, .slice none 0 0, .int .i64 (0), .int .i64 (0), .slice none 0 0, .slice none 0 0, .int .i64 (3), .int .i64 (0)], .complex .f32 z1 z2] w (RStep w #[.int .i64 (8), .complex .f32 0 0, .complex .f32 z1 z2, .float .f32 0, .slice none 0 0, .int .i64 (0), .int .i64 (0), .slice none 0 0, .slice none 0 0, .int .i64 (3), .int .i64 (2)] z1 z2) :=
  StepModule_flat w 8 0 0 0 0 0 3 0 z1 z2 0 0 z1 z2 0 3 2 z1 z2 (fun w' => IsModule_hold w' 0 0 3 0 (by omega) (by omega) (by omega) (by omega)) (fun w' b hb => step_hold w' b 0 0 z1 z2 hb)
end Go.Proofs.Ytopkehknaclhlaa
