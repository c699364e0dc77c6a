/-
  DERIVED. GIVEN WITH THE SEED: THE CARDS: each row of YtfhpkcdkinnnmaaGreatDoorRows.lean that lists a variable, with what it lists TIED to the program's text (the seventh form; the later family's looks); each row that meets fmt, with fmt's text TOLD by the authors' own Lean function (tested against real Go, not proved from fmt's source: count such statements apart). THE CARD IS WHAT COUNTS. Prove the row's statement (the work); the ties are given (YtfhpkcdkinnnmaaGreatDoorTie.lean); close each card by the builder's one call (the guide's Derived/Test/ToyasCard.lean, 'card_holds'). Laid BY PROGRAM, IN A SANDBOX (cutbox-door.mjs). By AI agents, Wed Nov 11 2026. No macro, syntax, notation, axiom, sorry.
-/
import Derived.Test.YtfhpkcdkinnnmaaGreatDoorRows
import GoSem.ClaimSeven
namespace Go.Proofs.YtfhpkcdkinnnmaaGreatDoor
namespace Rows

/-- THE TIED CARD OF 'laws.FnExactRaise'. -/
def fnExactRaiseCard : Claim7 := { stood := { row := fnExactRaiseRow, standIns := [], harness := (true, "b0f4847fedddc41d10c5c7fea3b886b1347ca43a8fc37a5508311d38b8b21387"), looks := false }, kinds := [], alts := [], laidByText := true, laidKinds := [.data, .data, .data], laidTests := true, laidLooks := .later }
def FnExactRaiseCardSaid : Prop := Claim7.holds Tryz.pinned (.plain (OpenSpec.ofChange fnExactRaiseSpec)) fnExactRaiseCard

/-- THE TIED CARD OF 'laws.FnExactRunSize'. -/
def fnExactRunSizeCard : Claim7 := { stood := { row := fnExactRunSizeRow, standIns := [], harness := (true, "b0f4847fedddc41d10c5c7fea3b886b1347ca43a8fc37a5508311d38b8b21387"), looks := false }, kinds := [], alts := [], laidByText := true, laidKinds := [.data, .data, .data, .data, .pinned], laidTests := true, laidLooks := .later }
def FnExactRunSizeCardSaid : Prop := Claim7.holds Tryz.pinned (.plain (OpenSpec.ofChange fnExactRunSizeSpec)) fnExactRunSizeCard

/-- THE TIED CARD OF 'laws.FnExactRunEncode'. -/
def fnExactRunEncodeCard : Claim7 := { stood := { row := fnExactRunEncodeRow, standIns := [], harness := (true, "b0f4847fedddc41d10c5c7fea3b886b1347ca43a8fc37a5508311d38b8b21387"), looks := false }, kinds := [], alts := [], laidByText := true, laidKinds := [.data, .data, .data, .data, .pinned], laidTests := true, laidLooks := .later }
def FnExactRunEncodeCardSaid : Prop := Claim7.holds Tryz.pinned (.plain (OpenSpec.ofChange fnExactRunEncodeSpec)) fnExactRunEncodeCard

/-- THE SECOND FORM's CARD OF 'laws.FnExactRaise'. -/
def fnExactRaiseUptoCard : Claim7 := { stood := { row := fnExactRaiseUptoRow, standIns := [], harness := (true, "b0f4847fedddc41d10c5c7fea3b886b1347ca43a8fc37a5508311d38b8b21387"), looks := false }, kinds := [], alts := [], laidByText := true, laidKinds := [.data, .data, .data], laidTests := true, laidLooks := .later }
def FnExactRaiseUptoCardSaid : Prop := Claim7.holds Tryz.pinned (.plain (OpenSpec.upto fnExactRaiseSpec)) fnExactRaiseUptoCard

/-- THE SECOND FORM's CARD OF 'laws.FnExactRunSize'. -/
def fnExactRunSizeUptoCard : Claim7 := { stood := { row := fnExactRunSizeUptoRow, standIns := [], harness := (true, "b0f4847fedddc41d10c5c7fea3b886b1347ca43a8fc37a5508311d38b8b21387"), looks := false }, kinds := [], alts := [], laidByText := true, laidKinds := [.data, .data, .data, .data, .pinned], laidTests := true, laidLooks := .later }
def FnExactRunSizeUptoCardSaid : Prop := Claim7.holds Tryz.pinned (.plain (OpenSpec.upto fnExactRunSizeSpec)) fnExactRunSizeUptoCard

/-- THE SECOND FORM's CARD OF 'laws.FnExactRunEncode'. -/
def fnExactRunEncodeUptoCard : Claim7 := { stood := { row := fnExactRunEncodeUptoRow, standIns := [], harness := (true, "b0f4847fedddc41d10c5c7fea3b886b1347ca43a8fc37a5508311d38b8b21387"), looks := false }, kinds := [], alts := [], laidByText := true, laidKinds := [.data, .data, .data, .data, .pinned], laidTests := true, laidLooks := .later }
def FnExactRunEncodeUptoCardSaid : Prop := Claim7.holds Tryz.pinned (.plain (OpenSpec.upto fnExactRunEncodeSpec)) fnExactRunEncodeUptoCard
end Rows
end Go.Proofs.YtfhpkcdkinnnmaaGreatDoor
