/- Constants: every constant is what the specification says. No condition. -/
import Derived.Test.YtccobinebaomoaaPFnExactConstantsx1
import Derived.Test.YtccobinebaomoaaLib
set_option linter.unusedSimpArgs false
set_option linter.unusedVariables false
namespace Go.Proofs.Ytccobinebaomoaa.Pure
open Go Go.RowKit Go.Proofs.Ytccobinebaomoaa.PFnExactConstants Go.Proofs.YtccobinebaomoaaW.PrintWords Go.Proofs.YtccobinebaomoaaW.PrintLast Go.Proofs.YtccobinebaomoaaW.PrintMore Go.Proofs.Ytccobinebaomoaa.Lib

theorem FnExactConstants : laws_FnExactConstants.Pure := by
  unfold laws_FnExactConstants.Pure laws_FnExactConstants.f
  rfl

end Go.Proofs.Ytccobinebaomoaa.Pure
