/- Contracts of functions of the given program, shown on the evaluator; each states its own conditions. -/
import Derived.Test.YtfhpkcdkinnnmaaS
open Go Ev
open Go.Proofs
namespace Ev
theorem d15 : drB 15 Try.f15 = true := by kernel_rfl
theorem d21 : drB 21 Try.f21 = true := by kernel_rfl
theorem d22 : drB 22 Try.f22 = true := by kernel_rfl
theorem d50 : drB 50 Try.f50 = true := by kernel_rfl
theorem d58 : drB 58 Try.f58 = true := by kernel_rfl
theorem d61 : drB 61 Try.f61 = true := by kernel_rfl
end Ev
