/- Contracts of functions of the given program, shown on the evaluator; each states its own conditions. -/
import Derived.Test.YtfhpkcdkinnnmaaDoorS
open Go Ev
open Go.Proofs
namespace Ev
theorem d16 : drB 16 Tryd.f16 = true := by kernel_rfl
theorem d35 : drB 35 Tryd.f35 = true := by kernel_rfl
theorem d62 : drB 62 Tryd.f62 = true := by kernel_rfl
theorem d63 : drB 63 Tryd.f63 = true := by kernel_rfl
theorem d68 : drB 68 Tryd.f68 = true := by kernel_rfl
end Ev
