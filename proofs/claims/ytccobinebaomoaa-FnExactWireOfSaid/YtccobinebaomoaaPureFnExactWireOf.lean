/- WireOf: for every kind both tables give the same wire. No condition. -/
import Derived.Test.YtccobinebaomoaaPFnExactWireOfx2
import Derived.Test.YtccobinebaomoaaLib
set_option linter.unusedSimpArgs false
set_option linter.unusedVariables false
namespace Go.Proofs.Ytccobinebaomoaa.Pure
open Go Go.RowKit Go.Proofs.Ytccobinebaomoaa.PFnExactWireOf Go.Proofs.YtccobinebaomoaaW.PrintWords Go.Proofs.YtccobinebaomoaaW.PrintLast Go.Proofs.YtccobinebaomoaaW.PrintMore Go.Proofs.Ytccobinebaomoaa.Lib

theorem FnExactWireOf : laws_FnExactWireOf.Pure := by
  intro a ha
  refine ⟨100, ?_⟩
  by_cases h1 : a = 1; · subst h1; rfl
  by_cases h2 : a = 2; · subst h2; rfl
  by_cases h3 : a = 3; · subst h3; rfl
  by_cases h4 : a = 4; · subst h4; rfl
  by_cases h5 : a = 5; · subst h5; rfl
  by_cases h6 : a = 6; · subst h6; rfl
  by_cases h7 : a = 7; · subst h7; rfl
  by_cases h8 : a = 8; · subst h8; rfl
  by_cases h9 : a = 9; · subst h9; rfl
  by_cases h10 : a = 10; · subst h10; rfl
  by_cases h11 : a = 11; · subst h11; rfl
  by_cases h12 : a = 12; · subst h12; rfl
  by_cases h13 : a = 13; · subst h13; rfl
  by_cases h14 : a = 14; · subst h14; rfl
  by_cases h15 : a = 15; · subst h15; rfl
  by_cases h16 : a = 16; · subst h16; rfl
  by_cases h17 : a = 17; · subst h17; rfl
  simp [laws_FnExactWireOf.f, impl_WireOf.f, spec_WireOf.f, spec_WireOf.j0, spec_WireOf.j1, spec_WireOf.j2, impl_WireOf.j0, impl_WireOf.j1, impl_WireOf.j2, *]

end Go.Proofs.Ytccobinebaomoaa.Pure
