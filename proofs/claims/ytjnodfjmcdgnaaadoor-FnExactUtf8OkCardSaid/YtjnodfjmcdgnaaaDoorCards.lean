/-
  DERIVED. GIVEN WITH THE SEED: THE CARDS: each row of YtjnodfjmcdgnaaaDoorRows.lean that lists a variable, with what it lists TIED to the program's text (the seventh form; the later family's looks); each row that meets fmt, with fmt's text TOLD by the authors' own Lean function (tested against real Go, not proved from fmt's source: count such statements apart). THE CARD IS WHAT COUNTS. Prove the row's statement (the work); the ties are given (YtjnodfjmcdgnaaaDoorTie.lean); close each card by the builder's one call (the guide's Derived/Test/ToyasCard.lean, 'card_holds'). Laid BY PROGRAM, IN A SANDBOX (cutbox-door.mjs). By AI agents, Wed Nov 11 2026. No macro, syntax, notation, axiom, sorry.
-/
import Derived.Test.YtjnodfjmcdgnaaaDoorRows
import GoSem.ClaimSeven
namespace Go.Proofs.YtjnodfjmcdgnaaaDoor
namespace Rows

/-- THE TIED CARD OF 'laws.FnExactUtf8Ok'. -/
def fnExactUtf8OkCard : Claim7 := { stood := { row := fnExactUtf8OkRow, standIns := [], harness := (true, "be0d021e0ce1e836e91cef0ea87b415309dc42ce812301cec8e3eb43029393be"), looks := false }, kinds := [], alts := [], laidByText := true, laidKinds := [.data, .pinned], laidTests := true, laidLooks := .later }
def FnExactUtf8OkCardSaid : Prop := Claim7.holds Tryd.pinned (.plain (OpenSpec.ofChange fnExactUtf8OkSpec)) fnExactUtf8OkCard

/-- THE SECOND FORM's CARD OF 'laws.FnExactUtf8Ok'. -/
def fnExactUtf8OkUptoCard : Claim7 := { stood := { row := fnExactUtf8OkUptoRow, standIns := [], harness := (true, "be0d021e0ce1e836e91cef0ea87b415309dc42ce812301cec8e3eb43029393be"), looks := false }, kinds := [], alts := [], laidByText := true, laidKinds := [.data, .pinned], laidTests := true, laidLooks := .later }
def FnExactUtf8OkUptoCardSaid : Prop := Claim7.holds Tryd.pinned (.plain (OpenSpec.upto fnExactUtf8OkSpec)) fnExactUtf8OkUptoCard
end Rows
end Go.Proofs.YtjnodfjmcdgnaaaDoor
