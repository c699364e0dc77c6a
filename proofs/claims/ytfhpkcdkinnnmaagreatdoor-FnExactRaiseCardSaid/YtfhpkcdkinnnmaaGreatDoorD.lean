/- Contracts of functions of the given program, shown on the evaluator; each states its own conditions. -/
import Derived.Test.YtfhpkcdkinnnmaaGreatDoorS
open Go Ev
open Go.Proofs
namespace Ev
theorem d7 : drB 7 Tryz.f7 = true := by kernel_rfl
theorem d9 : drB 9 Tryz.f9 = true := by kernel_rfl
theorem d30 : drB 30 Tryz.f30 = true := by kernel_rfl
theorem d55 : drB 55 Tryz.f55 = true := by kernel_rfl
theorem d64 : drB 64 Tryz.f64 = true := by kernel_rfl
theorem d67 : drB 67 Tryz.f67 = true := by kernel_rfl
end Ev
