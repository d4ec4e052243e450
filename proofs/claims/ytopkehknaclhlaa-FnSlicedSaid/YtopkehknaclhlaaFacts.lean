/- Three closed facts on the whole program that each row asks: reckoned once. No condition. -/
import Derived.Test.YtopkehknaclhlaaRows
import Derived.JoinedOf
namespace Go.Proofs.Ytopkehknaclhlaa
theorem fEnter : Try.prog.mayEnter = true := by kernel_rfl
theorem fLifts : (Rows.fnExactNewRingRow.lifted == Try.prog.liftsFinal) = true := by kernel_rfl
theorem fMake : (Try.prog.make == some Rows.fnExactNewRingRow.make) = true := by kernel_rfl
end Go.Proofs.Ytopkehknaclhlaa
