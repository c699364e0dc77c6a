/- Contracts of functions of the given program, shown on the evaluator; each states its own conditions. -/
import Derived.Test.YtfhpkcdkinnnmaaS
open Go Ev
open Go.Proofs
namespace Ev
theorem d27 : drB 27 Try.f27 = true := by kernel_rfl
theorem d28 : drB 28 Try.f28 = true := by kernel_rfl
theorem d76 : drB 76 Try.f76 = true := by kernel_rfl
theorem d80 : drB 80 Try.f80 = true := by kernel_rfl
theorem d141 : drB 141 Try.f141 = true := by kernel_rfl
theorem d148 : drB 148 Try.f148 = true := by kernel_rfl
theorem d149 : drB 149 Try.f149 = true := by kernel_rfl
theorem d156 : drB 156 Try.f156 = true := by kernel_rfl
end Ev
