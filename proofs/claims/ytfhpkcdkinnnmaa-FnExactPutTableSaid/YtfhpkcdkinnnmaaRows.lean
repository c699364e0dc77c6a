/-
  NARROWER THAN 'FOR EVERY INPUT', by the rows' own cells (each row's printed sentence says how): FnExactSameFile: loops · FnExactIrOk: loops · FnExactMarks: loops · FnExactPutTable: loops.
  DERIVED. THE GIVEN ROWS OF THIS SEAT. 6 by the template 'for every input the law returns true; each argument reads behind the call as it read before'; 0 by the template 'total and deterministic' (their statements: YtfhpkcdkinnnmaaTotals.lean).
  GIVEN WITH THE SEED: the statements are not yours to turn. If you find one false, say at which input.
  Laid BY PROGRAM, IN A SANDBOX (cutbox-rows.mjs): the forced cells as the released guide's own fill.sh prints them over the translation e562cca89dc78216… (all of the seat's roots in one cut). By AI agents, Wed Nov 11 2026. No macro, syntax, notation, axiom, sorry.
-/
import Derived.Test.YtfhpkcdkinnnmaaChecked
import GoSem.Claim
import GoSem.ClaimJoined
import GoSem.ClaimMapViews
import Derived.JoinedTies
import Derived.KernelRfl
namespace Go.Proofs.Ytfhpkcdkinnnmaa
/- THE CELL 'sum', in the pinned program and in every row, IS THE sha256 OF THE DUMP (.gsa) THAT YtfhpkcdkinnnmaaProg.lean LOADS. Nothing in Lean hashes anything: it is a label: what it is worth is what the hold of that sum in a sandbox is worth. -/
noncomputable def Try.pinned : Pinned := { name := "ytfhpkcdkinnnmaa", sum := "e562cca89dc78216f14aceabab35df3edfa2aa2892d0f30b7675d29a11e7291e", checked := Try.checked }
namespace Rows
def none {H : Type} : Left H := { results := [], args := [] }

/-- 'laws.FnExactSameFile': WHATEVER THE INPUT: true; the input reads as it did. -/
def fnExactSameFileSpec : ChangeSpec := { name := "fnExactSameFile", fn := fun _ => fun
  | [d1, d2] => { results := [.lit (.bool true)], args := [d1, d2] }
  | _ => none }
def fnExactSameFileRow : OpenClaim := { program := "ytfhpkcdkinnnmaa", sum := "e562cca89dc78216f14aceabab35df3edfa2aa2892d0f30b7675d29a11e7291e", func := "loop.example/g00104/laws.FnExactSameFile", spec := "fnExactSameFile", unfollowed := true, recurses := true, loops := true, apart := false }
def FnExactSameFileSaid : Prop := fnExactSameFileRow.holds Try.pinned (OpenSpec.ofChange fnExactSameFileSpec)

/-- ITS FALSE NEIGHBOUR: 'it returns false'. Refute it at one input. -/
def fnExactSameFileWrong : ChangeSpec := { name := "fnExactSameFile", fn := fun _ => fun
  | [d1, d2] => { results := [.lit (.bool false)], args := [d1, d2] }
  | _ => none }
def FnExactSameFileWrongFalsely : Prop := fnExactSameFileRow.holds Try.pinned (OpenSpec.ofChange fnExactSameFileWrong)

/-- 'laws.FnExactIrOk': WHATEVER THE INPUT: true; the input reads as it did. -/
def fnExactIrOkSpec : ChangeSpec := { name := "fnExactIrOk", fn := fun _ => fun
  | [d] => { results := [.lit (.bool true)], args := [d] }
  | _ => none }
def fnExactIrOkRow : OpenClaim := { program := "ytfhpkcdkinnnmaa", sum := "e562cca89dc78216f14aceabab35df3edfa2aa2892d0f30b7675d29a11e7291e", func := "loop.example/g00104/laws.FnExactIrOk", spec := "fnExactIrOk", unfollowed := true, recurses := true, loops := true, apart := false }
def FnExactIrOkSaid : Prop := fnExactIrOkRow.holds Try.pinned (OpenSpec.ofChange fnExactIrOkSpec)

/-- ITS FALSE NEIGHBOUR: 'it returns false'. Refute it at one input. -/
def fnExactIrOkWrong : ChangeSpec := { name := "fnExactIrOk", fn := fun _ => fun
  | [d] => { results := [.lit (.bool false)], args := [d] }
  | _ => none }
def FnExactIrOkWrongFalsely : Prop := fnExactIrOkRow.holds Try.pinned (OpenSpec.ofChange fnExactIrOkWrong)

/-- 'laws.FnExactMarks': WHATEVER THE INPUT: true; the input reads as it did. -/
def fnExactMarksSpec : ChangeSpec := { name := "fnExactMarks", fn := fun _ => fun
  | [d] => { results := [.lit (.bool true)], args := [d] }
  | _ => none }
def fnExactMarksRow : OpenClaim := { program := "ytfhpkcdkinnnmaa", sum := "e562cca89dc78216f14aceabab35df3edfa2aa2892d0f30b7675d29a11e7291e", func := "loop.example/g00104/laws.FnExactMarks", spec := "fnExactMarks", unfollowed := true, recurses := true, loops := true, apart := false }
def FnExactMarksSaid : Prop := fnExactMarksRow.holds Try.pinned (OpenSpec.ofChange fnExactMarksSpec)

/-- ITS FALSE NEIGHBOUR: 'it returns false'. Refute it at one input. -/
def fnExactMarksWrong : ChangeSpec := { name := "fnExactMarks", fn := fun _ => fun
  | [d] => { results := [.lit (.bool false)], args := [d] }
  | _ => none }
def FnExactMarksWrongFalsely : Prop := fnExactMarksRow.holds Try.pinned (OpenSpec.ofChange fnExactMarksWrong)

/-- 'laws.FnExactPutTable': WHATEVER THE INPUT: true; the input reads as it did. -/
def fnExactPutTableSpec : ChangeSpec := { name := "fnExactPutTable", fn := fun _ => fun
  | [d] => { results := [.lit (.bool true)], args := [d] }
  | _ => none }
def fnExactPutTableRow : OpenClaim := { program := "ytfhpkcdkinnnmaa", sum := "e562cca89dc78216f14aceabab35df3edfa2aa2892d0f30b7675d29a11e7291e", func := "loop.example/g00104/laws.FnExactPutTable", spec := "fnExactPutTable", unfollowed := true, recurses := true, loops := true, apart := false }
def FnExactPutTableSaid : Prop := fnExactPutTableRow.holds Try.pinned (OpenSpec.ofChange fnExactPutTableSpec)

/-- ITS FALSE NEIGHBOUR: 'it returns false'. Refute it at one input. -/
def fnExactPutTableWrong : ChangeSpec := { name := "fnExactPutTable", fn := fun _ => fun
  | [d] => { results := [.lit (.bool false)], args := [d] }
  | _ => none }
def FnExactPutTableWrongFalsely : Prop := fnExactPutTableRow.holds Try.pinned (OpenSpec.ofChange fnExactPutTableWrong)

/-- 'laws.FnExactParse': WHATEVER THE INPUT: true; the input reads as it did. -/
def fnExactParseSpec : ChangeSpec := { name := "fnExactParse", fn := fun _ => fun
  | [d] => { results := [.lit (.bool true)], args := [d] }
  | _ => none }
def fnExactParseRow : OpenClaim := { program := "ytfhpkcdkinnnmaa", sum := "e562cca89dc78216f14aceabab35df3edfa2aa2892d0f30b7675d29a11e7291e", func := "loop.example/g00104/laws.FnExactParse", spec := "fnExactParse", inPlace := ["internal/bytealg.IndexByteString"], recurses := true, apart := false }
def FnExactParseSaid : Prop := fnExactParseRow.holds Try.pinned (OpenSpec.ofChange fnExactParseSpec)

/-- ITS FALSE NEIGHBOUR: 'it returns false'. Refute it at one input. -/
def fnExactParseWrong : ChangeSpec := { name := "fnExactParse", fn := fun _ => fun
  | [d] => { results := [.lit (.bool false)], args := [d] }
  | _ => none }
def FnExactParseWrongFalsely : Prop := fnExactParseRow.holds Try.pinned (OpenSpec.ofChange fnExactParseWrong)

/-- 'laws.FnExactGetTable': WHATEVER THE INPUT: true; the input reads as it did. -/
def fnExactGetTableSpec : ChangeSpec := { name := "fnExactGetTable", fn := fun _ => fun
  | [d] => { results := [.lit (.bool true)], args := [d] }
  | _ => none }
def fnExactGetTableRow : OpenClaim := { program := "ytfhpkcdkinnnmaa", sum := "e562cca89dc78216f14aceabab35df3edfa2aa2892d0f30b7675d29a11e7291e", func := "loop.example/g00104/laws.FnExactGetTable", spec := "fnExactGetTable", unfollowed := true, recurses := true, apart := false }
def FnExactGetTableSaid : Prop := fnExactGetTableRow.holds Try.pinned (OpenSpec.ofChange fnExactGetTableSpec)

/-- ITS FALSE NEIGHBOUR: 'it returns false'. Refute it at one input. -/
def fnExactGetTableWrong : ChangeSpec := { name := "fnExactGetTable", fn := fun _ => fun
  | [d] => { results := [.lit (.bool false)], args := [d] }
  | _ => none }
def FnExactGetTableWrongFalsely : Prop := fnExactGetTableRow.holds Try.pinned (OpenSpec.ofChange fnExactGetTableWrong)

/- THE SECOND FORM. 'bulk': how many values and letters a reading holds, each counted each time it is reached (what is shared counts as often as it is met; a slice's spare places count too). A statement '..UptoSaid' is the law's where the arguments, and the package variables that the reading takes, are together of bulk at most 1048576: NARROWER than '..Said'. Prove '..Said' where nothing that the law and all that it calls make is longer than what came in: it says more and counts as full. Else prove '..UptoSaid'. A law counts once. -/
mutual
def uptoBulk {H : Type} : DataW H → Nat
  | .lit (.string bytes) => bytes.length + 1
  | .lit _ => 1
  | .nil => 1
  | .ptr d => uptoBulk d + 1
  | .slice elems spare => uptoBulkAll elems + uptoBulkAll spare + 1
  | .agg parts => uptoBulkAll parts + 1
  | .iface _ d => uptoBulk d + 1
  | .map entries => uptoBulkEntries entries + 1
  | .held _ => 1
def uptoBulkAll {H : Type} : List (DataW H) → Nat
  | [] => 0
  | d :: r => uptoBulk d + uptoBulkAll r
def uptoBulkEntries {H : Type} : List (Lit × DataW H) → Nat
  | [] => 0
  | x :: r => uptoBulkEntry x + uptoBulkEntries r
def uptoBulkEntry {H : Type} : Lit × DataW H → Nat
  | (.string bytes, d) => bytes.length + uptoBulk d + 1
  | (_, d) => uptoBulk d + 1
 end
def uptoSmall : (H : Type) → List (DataW H) → Bool := fun _ ds => decide (uptoBulkAll ds ≤ 1048576)
def OpenSpec.upto (s : _root_.Go.ChangeSpec) : _root_.Go.OpenSpec := { _root_.Go.OpenSpec.ofChange s with cond := some uptoSmall }

/-- 'laws.FnExactSameFile', WHERE WHAT IT READS IS OF BULK AT MOST 1048576: true; the input reads as it did. -/
def fnExactSameFileUptoRow : OpenClaim := { program := "ytfhpkcdkinnnmaa", sum := "e562cca89dc78216f14aceabab35df3edfa2aa2892d0f30b7675d29a11e7291e", func := "loop.example/g00104/laws.FnExactSameFile", spec := "fnExactSameFile", unfollowed := true, recurses := true, loops := true, apart := false, narrowed := true }
def FnExactSameFileUptoSaid : Prop := fnExactSameFileUptoRow.holds Try.pinned (OpenSpec.upto fnExactSameFileSpec)

/-- 'laws.FnExactIrOk', WHERE WHAT IT READS IS OF BULK AT MOST 1048576: true; the input reads as it did. -/
def fnExactIrOkUptoRow : OpenClaim := { program := "ytfhpkcdkinnnmaa", sum := "e562cca89dc78216f14aceabab35df3edfa2aa2892d0f30b7675d29a11e7291e", func := "loop.example/g00104/laws.FnExactIrOk", spec := "fnExactIrOk", unfollowed := true, recurses := true, loops := true, apart := false, narrowed := true }
def FnExactIrOkUptoSaid : Prop := fnExactIrOkUptoRow.holds Try.pinned (OpenSpec.upto fnExactIrOkSpec)

/-- 'laws.FnExactMarks', WHERE WHAT IT READS IS OF BULK AT MOST 1048576: true; the input reads as it did. -/
def fnExactMarksUptoRow : OpenClaim := { program := "ytfhpkcdkinnnmaa", sum := "e562cca89dc78216f14aceabab35df3edfa2aa2892d0f30b7675d29a11e7291e", func := "loop.example/g00104/laws.FnExactMarks", spec := "fnExactMarks", unfollowed := true, recurses := true, loops := true, apart := false, narrowed := true }
def FnExactMarksUptoSaid : Prop := fnExactMarksUptoRow.holds Try.pinned (OpenSpec.upto fnExactMarksSpec)

/-- 'laws.FnExactPutTable', WHERE WHAT IT READS IS OF BULK AT MOST 1048576: true; the input reads as it did. -/
def fnExactPutTableUptoRow : OpenClaim := { program := "ytfhpkcdkinnnmaa", sum := "e562cca89dc78216f14aceabab35df3edfa2aa2892d0f30b7675d29a11e7291e", func := "loop.example/g00104/laws.FnExactPutTable", spec := "fnExactPutTable", unfollowed := true, recurses := true, loops := true, apart := false, narrowed := true }
def FnExactPutTableUptoSaid : Prop := fnExactPutTableUptoRow.holds Try.pinned (OpenSpec.upto fnExactPutTableSpec)

/-- 'laws.FnExactParse', WHERE WHAT IT READS IS OF BULK AT MOST 1048576: true; the input reads as it did. -/
def fnExactParseUptoRow : OpenClaim := { program := "ytfhpkcdkinnnmaa", sum := "e562cca89dc78216f14aceabab35df3edfa2aa2892d0f30b7675d29a11e7291e", func := "loop.example/g00104/laws.FnExactParse", spec := "fnExactParse", inPlace := ["internal/bytealg.IndexByteString"], recurses := true, apart := false, narrowed := true }
def FnExactParseUptoSaid : Prop := fnExactParseUptoRow.holds Try.pinned (OpenSpec.upto fnExactParseSpec)

/-- 'laws.FnExactGetTable', WHERE WHAT IT READS IS OF BULK AT MOST 1048576: true; the input reads as it did. -/
def fnExactGetTableUptoRow : OpenClaim := { program := "ytfhpkcdkinnnmaa", sum := "e562cca89dc78216f14aceabab35df3edfa2aa2892d0f30b7675d29a11e7291e", func := "loop.example/g00104/laws.FnExactGetTable", spec := "fnExactGetTable", unfollowed := true, recurses := true, apart := false, narrowed := true }
def FnExactGetTableUptoSaid : Prop := fnExactGetTableUptoRow.holds Try.pinned (OpenSpec.upto fnExactGetTableSpec)

end Rows
end Go.Proofs.Ytfhpkcdkinnnmaa
