/-
  DERIVED. GIVEN WITH THE SEED: THE CARDS: each row of YtfhpkcdkinnnmaaDoorRows.lean that lists a variable, with what it lists TIED to the program's text (the seventh form; the later family's looks); each row that meets fmt, with fmt's text TOLD by the authors' own Lean function (tested against real Go, not proved from fmt's source: count such statements apart). THE CARD IS WHAT COUNTS. Prove the row's statement (the work); the ties are given (YtfhpkcdkinnnmaaDoorTie.lean); close each card by the builder's one call (the guide's Derived/Test/ToyasCard.lean, 'card_holds'). Laid BY PROGRAM, IN A SANDBOX (cutbox-door.mjs). By AI agents, Wed Nov 11 2026. No macro, syntax, notation, axiom, sorry.
-/
import Derived.Test.YtfhpkcdkinnnmaaDoorRows
import GoSem.ClaimSeven
namespace Go.Proofs.YtfhpkcdkinnnmaaDoor
namespace Rows

/-- THE TIED CARD OF 'laws.FnExactPutScalar'. -/
def fnExactPutScalarCard : Claim7 := { stood := { row := fnExactPutScalarRow, standIns := [], harness := (true, "c05a9c6816458e1f3f244006d923428a81373b3b93466aa18adb946e2ecae5bd"), looks := false }, kinds := [], alts := [], laidByText := true, laidKinds := [.data, .pinned], laidTests := true, laidLooks := .later }
def FnExactPutScalarCardSaid : Prop := Claim7.holds Tryd.pinned (.plain (OpenSpec.ofChange fnExactPutScalarSpec)) fnExactPutScalarCard

/-- THE TIED CARD OF 'laws.FnNested'. -/
def fnNestedCard : Claim7 := { stood := { row := fnNestedRow, standIns := [], harness := (true, "c05a9c6816458e1f3f244006d923428a81373b3b93466aa18adb946e2ecae5bd"), looks := false }, kinds := [], alts := [], laidByText := true, laidKinds := [.data, .pinned], laidTests := true, laidLooks := .later }
def FnNestedCardSaid : Prop := Claim7.holds Tryd.pinned (.plain (OpenSpec.ofChange fnNestedSpec)) fnNestedCard

/-- THE SECOND FORM's CARD OF 'laws.FnExactPutScalar'. -/
def fnExactPutScalarUptoCard : Claim7 := { stood := { row := fnExactPutScalarUptoRow, standIns := [], harness := (true, "c05a9c6816458e1f3f244006d923428a81373b3b93466aa18adb946e2ecae5bd"), looks := false }, kinds := [], alts := [], laidByText := true, laidKinds := [.data, .pinned], laidTests := true, laidLooks := .later }
def FnExactPutScalarUptoCardSaid : Prop := Claim7.holds Tryd.pinned (.plain (OpenSpec.upto fnExactPutScalarSpec)) fnExactPutScalarUptoCard

/-- THE SECOND FORM's CARD OF 'laws.FnNested'. -/
def fnNestedUptoCard : Claim7 := { stood := { row := fnNestedUptoRow, standIns := [], harness := (true, "c05a9c6816458e1f3f244006d923428a81373b3b93466aa18adb946e2ecae5bd"), looks := false }, kinds := [], alts := [], laidByText := true, laidKinds := [.data, .pinned], laidTests := true, laidLooks := .later }
def FnNestedUptoCardSaid : Prop := Claim7.holds Tryd.pinned (.plain (OpenSpec.upto fnNestedSpec)) fnNestedUptoCard
end Rows
end Go.Proofs.YtfhpkcdkinnnmaaDoor
