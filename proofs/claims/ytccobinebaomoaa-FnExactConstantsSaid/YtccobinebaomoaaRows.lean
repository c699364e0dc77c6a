/-
  No cell of these rows narrows 'for every input' (looked for: loops, veiled, ifaces, maps, wideKeys, modest, calm, conditions, laid).
  DERIVED. THE GIVEN ROWS OF THIS SEAT. 11 by the template 'for every input the law returns true; each argument reads behind the call as it read before'; 0 by the template 'total and deterministic' (their statements: YtccobinebaomoaaTotals.lean).
  GIVEN WITH THE SEED: the statements are not yours to turn. If you find one false, say at which input.
  Laid BY PROGRAM, IN A SANDBOX (cutbox-rows.mjs): the forced cells as the released guide's own fill.sh prints them over the translation 84ec3d79dd07b578… (all of the seat's roots in one cut). By AI agents, Wed Nov 11 2026. No macro, syntax, notation, axiom, sorry.
-/
import Derived.Test.YtccobinebaomoaaChecked
import GoSem.Claim
import GoSem.ClaimJoined
import GoSem.ClaimMapViews
import Derived.JoinedTies
import Derived.KernelRfl
namespace Go.Proofs.Ytccobinebaomoaa
/- THE CELL 'sum', in the pinned program and in every row, IS THE sha256 OF THE DUMP (.gsa) THAT YtccobinebaomoaaProg.lean LOADS. Nothing in Lean hashes anything: it is a label: what it is worth is what the hold of that sum in a sandbox is worth. -/
noncomputable def Try.pinned : Pinned := { name := "ytccobinebaomoaa", sum := "84ec3d79dd07b578b7c00981667123f2b5c86451ae964b905a3cd0e447c90b2e", checked := Try.checked }
namespace Rows
def none {H : Type} : Left H := { results := [], args := [] }

/-- 'laws.FnExactConstants': WHATEVER THE INPUT: true; the input reads as it did. -/
def fnExactConstantsSpec : ChangeSpec := { name := "fnExactConstants", fn := fun _ => fun
  | [] => { results := [.lit (.bool true)], args := [] }
  | _ => none }
def fnExactConstantsRow : OpenClaim := { program := "ytccobinebaomoaa", sum := "84ec3d79dd07b578b7c00981667123f2b5c86451ae964b905a3cd0e447c90b2e", func := "loop.example/g00104/laws.FnExactConstants", spec := "fnExactConstants", apart := false }
def FnExactConstantsSaid : Prop := fnExactConstantsRow.holds Try.pinned (OpenSpec.ofChange fnExactConstantsSpec)

/-- ITS FALSE NEIGHBOUR: 'it returns false'. Refute it at one input. -/
def fnExactConstantsWrong : ChangeSpec := { name := "fnExactConstants", fn := fun _ => fun
  | [] => { results := [.lit (.bool false)], args := [] }
  | _ => none }
def FnExactConstantsWrongFalsely : Prop := fnExactConstantsRow.holds Try.pinned (OpenSpec.ofChange fnExactConstantsWrong)

/-- 'laws.FnExactZigZag': WHATEVER THE INPUT: true; the input reads as it did. -/
def fnExactZigZagSpec : ChangeSpec := { name := "fnExactZigZag", fn := fun _ => fun
  | [d] => { results := [.lit (.bool true)], args := [d] }
  | _ => none }
def fnExactZigZagRow : OpenClaim := { program := "ytccobinebaomoaa", sum := "84ec3d79dd07b578b7c00981667123f2b5c86451ae964b905a3cd0e447c90b2e", func := "loop.example/g00104/laws.FnExactZigZag", spec := "fnExactZigZag", apart := false }
def FnExactZigZagSaid : Prop := fnExactZigZagRow.holds Try.pinned (OpenSpec.ofChange fnExactZigZagSpec)

/-- ITS FALSE NEIGHBOUR: 'it returns false'. Refute it at one input. -/
def fnExactZigZagWrong : ChangeSpec := { name := "fnExactZigZag", fn := fun _ => fun
  | [d] => { results := [.lit (.bool false)], args := [d] }
  | _ => none }
def FnExactZigZagWrongFalsely : Prop := fnExactZigZagRow.holds Try.pinned (OpenSpec.ofChange fnExactZigZagWrong)

/-- 'laws.FnExactUnZigZag': WHATEVER THE INPUT: true; the input reads as it did. -/
def fnExactUnZigZagSpec : ChangeSpec := { name := "fnExactUnZigZag", fn := fun _ => fun
  | [d] => { results := [.lit (.bool true)], args := [d] }
  | _ => none }
def fnExactUnZigZagRow : OpenClaim := { program := "ytccobinebaomoaa", sum := "84ec3d79dd07b578b7c00981667123f2b5c86451ae964b905a3cd0e447c90b2e", func := "loop.example/g00104/laws.FnExactUnZigZag", spec := "fnExactUnZigZag", apart := false }
def FnExactUnZigZagSaid : Prop := fnExactUnZigZagRow.holds Try.pinned (OpenSpec.ofChange fnExactUnZigZagSpec)

/-- ITS FALSE NEIGHBOUR: 'it returns false'. Refute it at one input. -/
def fnExactUnZigZagWrong : ChangeSpec := { name := "fnExactUnZigZag", fn := fun _ => fun
  | [d] => { results := [.lit (.bool false)], args := [d] }
  | _ => none }
def FnExactUnZigZagWrongFalsely : Prop := fnExactUnZigZagRow.holds Try.pinned (OpenSpec.ofChange fnExactUnZigZagWrong)

/-- 'laws.FnExactKindOf': WHATEVER THE INPUT: true; the input reads as it did. -/
def fnExactKindOfSpec : ChangeSpec := { name := "fnExactKindOf", fn := fun _ => fun
  | [d] => { results := [.lit (.bool true)], args := [d] }
  | _ => none }
def fnExactKindOfRow : OpenClaim := { program := "ytccobinebaomoaa", sum := "84ec3d79dd07b578b7c00981667123f2b5c86451ae964b905a3cd0e447c90b2e", func := "loop.example/g00104/laws.FnExactKindOf", spec := "fnExactKindOf", apart := false }
def FnExactKindOfSaid : Prop := fnExactKindOfRow.holds Try.pinned (OpenSpec.ofChange fnExactKindOfSpec)

/-- ITS FALSE NEIGHBOUR: 'it returns false'. Refute it at one input. -/
def fnExactKindOfWrong : ChangeSpec := { name := "fnExactKindOf", fn := fun _ => fun
  | [d] => { results := [.lit (.bool false)], args := [d] }
  | _ => none }
def FnExactKindOfWrongFalsely : Prop := fnExactKindOfRow.holds Try.pinned (OpenSpec.ofChange fnExactKindOfWrong)

/-- 'laws.FnExactWireOf': WHATEVER THE INPUT: true; the input reads as it did. -/
def fnExactWireOfSpec : ChangeSpec := { name := "fnExactWireOf", fn := fun _ => fun
  | [d] => { results := [.lit (.bool true)], args := [d] }
  | _ => none }
def fnExactWireOfRow : OpenClaim := { program := "ytccobinebaomoaa", sum := "84ec3d79dd07b578b7c00981667123f2b5c86451ae964b905a3cd0e447c90b2e", func := "loop.example/g00104/laws.FnExactWireOf", spec := "fnExactWireOf", apart := false }
def FnExactWireOfSaid : Prop := fnExactWireOfRow.holds Try.pinned (OpenSpec.ofChange fnExactWireOfSpec)

/-- ITS FALSE NEIGHBOUR: 'it returns false'. Refute it at one input. -/
def fnExactWireOfWrong : ChangeSpec := { name := "fnExactWireOf", fn := fun _ => fun
  | [d] => { results := [.lit (.bool false)], args := [d] }
  | _ => none }
def FnExactWireOfWrongFalsely : Prop := fnExactWireOfRow.holds Try.pinned (OpenSpec.ofChange fnExactWireOfWrong)

/-- 'laws.FnExactGetFixed': WHATEVER THE INPUT: true; the input reads as it did. -/
def fnExactGetFixedSpec : ChangeSpec := { name := "fnExactGetFixed", fn := fun _ => fun
  | [d1, d2, d3] => { results := [.lit (.bool true)], args := [d1, d2, d3] }
  | _ => none }
def fnExactGetFixedRow : OpenClaim := { program := "ytccobinebaomoaa", sum := "84ec3d79dd07b578b7c00981667123f2b5c86451ae964b905a3cd0e447c90b2e", func := "loop.example/g00104/laws.FnExactGetFixed", spec := "fnExactGetFixed", apart := false }
def FnExactGetFixedSaid : Prop := fnExactGetFixedRow.holds Try.pinned (OpenSpec.ofChange fnExactGetFixedSpec)

/-- ITS FALSE NEIGHBOUR: 'it returns false'. Refute it at one input. -/
def fnExactGetFixedWrong : ChangeSpec := { name := "fnExactGetFixed", fn := fun _ => fun
  | [d1, d2, d3] => { results := [.lit (.bool false)], args := [d1, d2, d3] }
  | _ => none }
def FnExactGetFixedWrongFalsely : Prop := fnExactGetFixedRow.holds Try.pinned (OpenSpec.ofChange fnExactGetFixedWrong)

/-- 'laws.FnExactPutVarint': WHATEVER THE INPUT: true; the input reads as it did. -/
def fnExactPutVarintSpec : ChangeSpec := { name := "fnExactPutVarint", fn := fun _ => fun
  | [d] => { results := [.lit (.bool true)], args := [d] }
  | _ => none }
def fnExactPutVarintRow : OpenClaim := { program := "ytccobinebaomoaa", sum := "84ec3d79dd07b578b7c00981667123f2b5c86451ae964b905a3cd0e447c90b2e", func := "loop.example/g00104/laws.FnExactPutVarint", spec := "fnExactPutVarint", apart := false }
def FnExactPutVarintSaid : Prop := fnExactPutVarintRow.holds Try.pinned (OpenSpec.ofChange fnExactPutVarintSpec)

/-- ITS FALSE NEIGHBOUR: 'it returns false'. Refute it at one input. -/
def fnExactPutVarintWrong : ChangeSpec := { name := "fnExactPutVarint", fn := fun _ => fun
  | [d] => { results := [.lit (.bool false)], args := [d] }
  | _ => none }
def FnExactPutVarintWrongFalsely : Prop := fnExactPutVarintRow.holds Try.pinned (OpenSpec.ofChange fnExactPutVarintWrong)

/-- 'laws.FnExactPutFixed': WHATEVER THE INPUT: true; the input reads as it did. -/
def fnExactPutFixedSpec : ChangeSpec := { name := "fnExactPutFixed", fn := fun _ => fun
  | [d1, d2] => { results := [.lit (.bool true)], args := [d1, d2] }
  | _ => none }
def fnExactPutFixedRow : OpenClaim := { program := "ytccobinebaomoaa", sum := "84ec3d79dd07b578b7c00981667123f2b5c86451ae964b905a3cd0e447c90b2e", func := "loop.example/g00104/laws.FnExactPutFixed", spec := "fnExactPutFixed", apart := false }
def FnExactPutFixedSaid : Prop := fnExactPutFixedRow.holds Try.pinned (OpenSpec.ofChange fnExactPutFixedSpec)

/-- ITS FALSE NEIGHBOUR: 'it returns false'. Refute it at one input. -/
def fnExactPutFixedWrong : ChangeSpec := { name := "fnExactPutFixed", fn := fun _ => fun
  | [d1, d2] => { results := [.lit (.bool false)], args := [d1, d2] }
  | _ => none }
def FnExactPutFixedWrongFalsely : Prop := fnExactPutFixedRow.holds Try.pinned (OpenSpec.ofChange fnExactPutFixedWrong)

/-- 'laws.FnExactFloatClass': WHATEVER THE INPUT: true; the input reads as it did. -/
def fnExactFloatClassSpec : ChangeSpec := { name := "fnExactFloatClass", fn := fun _ => fun
  | [d1, d2] => { results := [.lit (.bool true)], args := [d1, d2] }
  | _ => none }
def fnExactFloatClassRow : OpenClaim := { program := "ytccobinebaomoaa", sum := "84ec3d79dd07b578b7c00981667123f2b5c86451ae964b905a3cd0e447c90b2e", func := "loop.example/g00104/laws.FnExactFloatClass", spec := "fnExactFloatClass", apart := false }
def FnExactFloatClassSaid : Prop := fnExactFloatClassRow.holds Try.pinned (OpenSpec.ofChange fnExactFloatClassSpec)

/-- ITS FALSE NEIGHBOUR: 'it returns false'. Refute it at one input. -/
def fnExactFloatClassWrong : ChangeSpec := { name := "fnExactFloatClass", fn := fun _ => fun
  | [d1, d2] => { results := [.lit (.bool false)], args := [d1, d2] }
  | _ => none }
def FnExactFloatClassWrongFalsely : Prop := fnExactFloatClassRow.holds Try.pinned (OpenSpec.ofChange fnExactFloatClassWrong)

/-- 'laws.FnExactGetVarint': WHATEVER THE INPUT: true; the input reads as it did. -/
def fnExactGetVarintSpec : ChangeSpec := { name := "fnExactGetVarint", fn := fun _ => fun
  | [d1, d2] => { results := [.lit (.bool true)], args := [d1, d2] }
  | _ => none }
def fnExactGetVarintRow : OpenClaim := { program := "ytccobinebaomoaa", sum := "84ec3d79dd07b578b7c00981667123f2b5c86451ae964b905a3cd0e447c90b2e", func := "loop.example/g00104/laws.FnExactGetVarint", spec := "fnExactGetVarint", apart := false }
def FnExactGetVarintSaid : Prop := fnExactGetVarintRow.holds Try.pinned (OpenSpec.ofChange fnExactGetVarintSpec)

/-- ITS FALSE NEIGHBOUR: 'it returns false'. Refute it at one input. -/
def fnExactGetVarintWrong : ChangeSpec := { name := "fnExactGetVarint", fn := fun _ => fun
  | [d1, d2] => { results := [.lit (.bool false)], args := [d1, d2] }
  | _ => none }
def FnExactGetVarintWrongFalsely : Prop := fnExactGetVarintRow.holds Try.pinned (OpenSpec.ofChange fnExactGetVarintWrong)

/-- 'laws.FnExactPutTag': WHATEVER THE INPUT: true; the input reads as it did. -/
def fnExactPutTagSpec : ChangeSpec := { name := "fnExactPutTag", fn := fun _ => fun
  | [d1, d2] => { results := [.lit (.bool true)], args := [d1, d2] }
  | _ => none }
def fnExactPutTagRow : OpenClaim := { program := "ytccobinebaomoaa", sum := "84ec3d79dd07b578b7c00981667123f2b5c86451ae964b905a3cd0e447c90b2e", func := "loop.example/g00104/laws.FnExactPutTag", spec := "fnExactPutTag", apart := false }
def FnExactPutTagSaid : Prop := fnExactPutTagRow.holds Try.pinned (OpenSpec.ofChange fnExactPutTagSpec)

/-- ITS FALSE NEIGHBOUR: 'it returns false'. Refute it at one input. -/
def fnExactPutTagWrong : ChangeSpec := { name := "fnExactPutTag", fn := fun _ => fun
  | [d1, d2] => { results := [.lit (.bool false)], args := [d1, d2] }
  | _ => none }
def FnExactPutTagWrongFalsely : Prop := fnExactPutTagRow.holds Try.pinned (OpenSpec.ofChange fnExactPutTagWrong)

/- THE SECOND FORM. 'bulk': how many values and letters a reading holds, each counted each time it is reached (what is shared counts as often as it is met; a slice's spare places count too). A statement '..UptoSaid' is the law's where the arguments, and the package variables that the reading takes, are together of bulk at most 1048576: NARROWER than '..Said'. Prove '..Said' where nothing that the law and all that it calls make is longer than what came in: it says more and counts as full. Else prove '..UptoSaid'. A law counts once. -/
mutual
def uptoBulk {H : Type} : DataW H → Nat
  | .lit (.string bytes) => bytes.length + 1
  | .lit _ => 1
  | .nil => 1
  | .ptr d => uptoBulk d + 1
  | .slice elems spare => uptoBulkAll elems + uptoBulkAll spare + 1
  | .agg parts => uptoBulkAll parts + 1
  | .iface _ d => uptoBulk d + 1
  | .map entries => uptoBulkEntries entries + 1
  | .held _ => 1
def uptoBulkAll {H : Type} : List (DataW H) → Nat
  | [] => 0
  | d :: r => uptoBulk d + uptoBulkAll r
def uptoBulkEntries {H : Type} : List (Lit × DataW H) → Nat
  | [] => 0
  | x :: r => uptoBulkEntry x + uptoBulkEntries r
def uptoBulkEntry {H : Type} : Lit × DataW H → Nat
  | (.string bytes, d) => bytes.length + uptoBulk d + 1
  | (_, d) => uptoBulk d + 1
 end
def uptoSmall : (H : Type) → List (DataW H) → Bool := fun _ ds => decide (uptoBulkAll ds ≤ 1048576)
def OpenSpec.upto (s : _root_.Go.ChangeSpec) : _root_.Go.OpenSpec := { _root_.Go.OpenSpec.ofChange s with cond := some uptoSmall }

/-- 'laws.FnExactConstants', WHERE WHAT IT READS IS OF BULK AT MOST 1048576: true; the input reads as it did. -/
def fnExactConstantsUptoRow : OpenClaim := { program := "ytccobinebaomoaa", sum := "84ec3d79dd07b578b7c00981667123f2b5c86451ae964b905a3cd0e447c90b2e", func := "loop.example/g00104/laws.FnExactConstants", spec := "fnExactConstants", apart := false, narrowed := true }
def FnExactConstantsUptoSaid : Prop := fnExactConstantsUptoRow.holds Try.pinned (OpenSpec.upto fnExactConstantsSpec)

/-- 'laws.FnExactZigZag', WHERE WHAT IT READS IS OF BULK AT MOST 1048576: true; the input reads as it did. -/
def fnExactZigZagUptoRow : OpenClaim := { program := "ytccobinebaomoaa", sum := "84ec3d79dd07b578b7c00981667123f2b5c86451ae964b905a3cd0e447c90b2e", func := "loop.example/g00104/laws.FnExactZigZag", spec := "fnExactZigZag", apart := false, narrowed := true }
def FnExactZigZagUptoSaid : Prop := fnExactZigZagUptoRow.holds Try.pinned (OpenSpec.upto fnExactZigZagSpec)

/-- 'laws.FnExactUnZigZag', WHERE WHAT IT READS IS OF BULK AT MOST 1048576: true; the input reads as it did. -/
def fnExactUnZigZagUptoRow : OpenClaim := { program := "ytccobinebaomoaa", sum := "84ec3d79dd07b578b7c00981667123f2b5c86451ae964b905a3cd0e447c90b2e", func := "loop.example/g00104/laws.FnExactUnZigZag", spec := "fnExactUnZigZag", apart := false, narrowed := true }
def FnExactUnZigZagUptoSaid : Prop := fnExactUnZigZagUptoRow.holds Try.pinned (OpenSpec.upto fnExactUnZigZagSpec)

/-- 'laws.FnExactKindOf', WHERE WHAT IT READS IS OF BULK AT MOST 1048576: true; the input reads as it did. -/
def fnExactKindOfUptoRow : OpenClaim := { program := "ytccobinebaomoaa", sum := "84ec3d79dd07b578b7c00981667123f2b5c86451ae964b905a3cd0e447c90b2e", func := "loop.example/g00104/laws.FnExactKindOf", spec := "fnExactKindOf", apart := false, narrowed := true }
def FnExactKindOfUptoSaid : Prop := fnExactKindOfUptoRow.holds Try.pinned (OpenSpec.upto fnExactKindOfSpec)

/-- 'laws.FnExactWireOf', WHERE WHAT IT READS IS OF BULK AT MOST 1048576: true; the input reads as it did. -/
def fnExactWireOfUptoRow : OpenClaim := { program := "ytccobinebaomoaa", sum := "84ec3d79dd07b578b7c00981667123f2b5c86451ae964b905a3cd0e447c90b2e", func := "loop.example/g00104/laws.FnExactWireOf", spec := "fnExactWireOf", apart := false, narrowed := true }
def FnExactWireOfUptoSaid : Prop := fnExactWireOfUptoRow.holds Try.pinned (OpenSpec.upto fnExactWireOfSpec)

/-- 'laws.FnExactGetFixed', WHERE WHAT IT READS IS OF BULK AT MOST 1048576: true; the input reads as it did. -/
def fnExactGetFixedUptoRow : OpenClaim := { program := "ytccobinebaomoaa", sum := "84ec3d79dd07b578b7c00981667123f2b5c86451ae964b905a3cd0e447c90b2e", func := "loop.example/g00104/laws.FnExactGetFixed", spec := "fnExactGetFixed", apart := false, narrowed := true }
def FnExactGetFixedUptoSaid : Prop := fnExactGetFixedUptoRow.holds Try.pinned (OpenSpec.upto fnExactGetFixedSpec)

/-- 'laws.FnExactPutVarint', WHERE WHAT IT READS IS OF BULK AT MOST 1048576: true; the input reads as it did. -/
def fnExactPutVarintUptoRow : OpenClaim := { program := "ytccobinebaomoaa", sum := "84ec3d79dd07b578b7c00981667123f2b5c86451ae964b905a3cd0e447c90b2e", func := "loop.example/g00104/laws.FnExactPutVarint", spec := "fnExactPutVarint", apart := false, narrowed := true }
def FnExactPutVarintUptoSaid : Prop := fnExactPutVarintUptoRow.holds Try.pinned (OpenSpec.upto fnExactPutVarintSpec)

/-- 'laws.FnExactPutFixed', WHERE WHAT IT READS IS OF BULK AT MOST 1048576: true; the input reads as it did. -/
def fnExactPutFixedUptoRow : OpenClaim := { program := "ytccobinebaomoaa", sum := "84ec3d79dd07b578b7c00981667123f2b5c86451ae964b905a3cd0e447c90b2e", func := "loop.example/g00104/laws.FnExactPutFixed", spec := "fnExactPutFixed", apart := false, narrowed := true }
def FnExactPutFixedUptoSaid : Prop := fnExactPutFixedUptoRow.holds Try.pinned (OpenSpec.upto fnExactPutFixedSpec)

/-- 'laws.FnExactFloatClass', WHERE WHAT IT READS IS OF BULK AT MOST 1048576: true; the input reads as it did. -/
def fnExactFloatClassUptoRow : OpenClaim := { program := "ytccobinebaomoaa", sum := "84ec3d79dd07b578b7c00981667123f2b5c86451ae964b905a3cd0e447c90b2e", func := "loop.example/g00104/laws.FnExactFloatClass", spec := "fnExactFloatClass", apart := false, narrowed := true }
def FnExactFloatClassUptoSaid : Prop := fnExactFloatClassUptoRow.holds Try.pinned (OpenSpec.upto fnExactFloatClassSpec)

/-- 'laws.FnExactGetVarint', WHERE WHAT IT READS IS OF BULK AT MOST 1048576: true; the input reads as it did. -/
def fnExactGetVarintUptoRow : OpenClaim := { program := "ytccobinebaomoaa", sum := "84ec3d79dd07b578b7c00981667123f2b5c86451ae964b905a3cd0e447c90b2e", func := "loop.example/g00104/laws.FnExactGetVarint", spec := "fnExactGetVarint", apart := false, narrowed := true }
def FnExactGetVarintUptoSaid : Prop := fnExactGetVarintUptoRow.holds Try.pinned (OpenSpec.upto fnExactGetVarintSpec)

/-- 'laws.FnExactPutTag', WHERE WHAT IT READS IS OF BULK AT MOST 1048576: true; the input reads as it did. -/
def fnExactPutTagUptoRow : OpenClaim := { program := "ytccobinebaomoaa", sum := "84ec3d79dd07b578b7c00981667123f2b5c86451ae964b905a3cd0e447c90b2e", func := "loop.example/g00104/laws.FnExactPutTag", spec := "fnExactPutTag", apart := false, narrowed := true }
def FnExactPutTagUptoSaid : Prop := fnExactPutTagUptoRow.holds Try.pinned (OpenSpec.upto fnExactPutTagSpec)

end Rows
end Go.Proofs.Ytccobinebaomoaa
