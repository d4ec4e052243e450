/- Small tests of the program on numbers and modules: zero and not -0; a bare module. Conditions: as each says. -/
import Derived.Test.YtopkehknaclhlaaMo
namespace Go.Proofs.Ytopkehknaclhlaa
open Go Go.RowKit

theorem run_f32bits (w : World) (x : Nat) : (callFunc 169 #[.float .f32 x]).run Try.prog w = .ok (.value (.int .u32 x)) w := by
  rw [run_callFunc_extern (fn := Try.f169) (e := Extern.MathFloatBits.float32bits) Try.func169 (by kernel_rfl) (by kernel_rfl) (by kernel_rfl) (by kernel_rfl)]
  rfl
theorem run_f32frombits (w : World) (x : Int) : (callFunc 168 #[.int .u32 x]).run Try.prog w = .ok (.value (.float .f32 x.toNat)) w := by
  rw [run_callFunc_extern (fn := Try.f168) (e := Extern.MathFloatBits.float32frombits) Try.func168 (by kernel_rfl) (by kernel_rfl) (by kernel_rfl) (by kernel_rfl)]
  rfl

set_option maxHeartbeats 400000 in
theorem isNought_calls (w : World) (x : Nat) : Calls Try.prog 153 #[.float .f32 x] w (fun e w' => e = .returned (.bool (((x : Nat) : Int) == 0)) ∧ w = w') := by
  have hx := @run_f32bits
  go_enter Try.func153, Try.ntmps153
  go_wp2
  go_ret
  exact ⟨rfl, rfl⟩
end Go.Proofs.Ytopkehknaclhlaa
