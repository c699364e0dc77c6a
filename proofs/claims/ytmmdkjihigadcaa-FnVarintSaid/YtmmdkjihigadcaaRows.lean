/-
  No cell of these rows narrows 'for every input' (looked for: loops, veiled, ifaces, maps, wideKeys, modest, calm, conditions, laid).
  DERIVED. THE GIVEN ROWS OF THIS SEAT. 12 by the template 'for every input the law returns true; each argument reads behind the call as it read before'; 0 by the template 'total and deterministic' (their statements: YtmmdkjihigadcaaTotals.lean).
  GIVEN WITH THE SEED: the statements are not yours to turn. If you find one false, say at which input.
  Laid BY PROGRAM, IN A SANDBOX (cutbox-rows.mjs): the forced cells as the released guide's own fill.sh prints them over the translation dce30dc440b24466… (all of the seat's roots in one cut). By AI agents, Wed Nov 11 2026. No macro, syntax, notation, axiom, sorry.
-/
import Derived.Test.YtmmdkjihigadcaaChecked
import GoSem.Claim
import GoSem.ClaimJoined
import GoSem.ClaimMapViews
import Derived.JoinedTies
import Derived.KernelRfl
namespace Go.Proofs.Ytmmdkjihigadcaa
/- THE CELL 'sum', in the pinned program and in every row, IS THE sha256 OF THE DUMP (.gsa) THAT YtmmdkjihigadcaaProg.lean LOADS. Nothing in Lean hashes anything: it is a label: what it is worth is what the hold of that sum in a sandbox is worth. -/
noncomputable def Try.pinned : Pinned := { name := "ytmmdkjihigadcaa", sum := "dce30dc440b2446631321e2298b3f81d9bb0e4f1bde13b4d270d3e577715ae2b", checked := Try.checked }
namespace Rows
def none {H : Type} : Left H := { results := [], args := [] }

/-- 'laws.FnExactWiden': WHATEVER THE INPUT: true; the input reads as it did. -/
def fnExactWidenSpec : ChangeSpec := { name := "fnExactWiden", fn := fun _ => fun
  | [d] => { results := [.lit (.bool true)], args := [d] }
  | _ => none }
def fnExactWidenRow : OpenClaim := { program := "ytmmdkjihigadcaa", sum := "dce30dc440b2446631321e2298b3f81d9bb0e4f1bde13b4d270d3e577715ae2b", func := "loop.example/g00104/laws.FnExactWiden", spec := "fnExactWiden", inPlace := ["math.Float32frombits", "math.Float64bits"], apart := false }
def FnExactWidenSaid : Prop := fnExactWidenRow.holds Try.pinned (OpenSpec.ofChange fnExactWidenSpec)

/-- ITS FALSE NEIGHBOUR: 'it returns false'. Refute it at one input. -/
def fnExactWidenWrong : ChangeSpec := { name := "fnExactWiden", fn := fun _ => fun
  | [d] => { results := [.lit (.bool false)], args := [d] }
  | _ => none }
def FnExactWidenWrongFalsely : Prop := fnExactWidenRow.holds Try.pinned (OpenSpec.ofChange fnExactWidenWrong)

/-- 'laws.FnVarint': WHATEVER THE INPUT: true; the input reads as it did. -/
def fnVarintSpec : ChangeSpec := { name := "fnVarint", fn := fun _ => fun
  | [d] => { results := [.lit (.bool true)], args := [d] }
  | _ => none }
def fnVarintRow : OpenClaim := { program := "ytmmdkjihigadcaa", sum := "dce30dc440b2446631321e2298b3f81d9bb0e4f1bde13b4d270d3e577715ae2b", func := "loop.example/g00104/laws.FnVarint", spec := "fnVarint", apart := false }
def FnVarintSaid : Prop := fnVarintRow.holds Try.pinned (OpenSpec.ofChange fnVarintSpec)

/-- ITS FALSE NEIGHBOUR: 'it returns false'. Refute it at one input. -/
def fnVarintWrong : ChangeSpec := { name := "fnVarint", fn := fun _ => fun
  | [d] => { results := [.lit (.bool false)], args := [d] }
  | _ => none }
def FnVarintWrongFalsely : Prop := fnVarintRow.holds Try.pinned (OpenSpec.ofChange fnVarintWrong)

/-- 'laws.FnExactFloatNext': WHATEVER THE INPUT: true; the input reads as it did. -/
def fnExactFloatNextSpec : ChangeSpec := { name := "fnExactFloatNext", fn := fun _ => fun
  | [d1, d2] => { results := [.lit (.bool true)], args := [d1, d2] }
  | _ => none }
def fnExactFloatNextRow : OpenClaim := { program := "ytmmdkjihigadcaa", sum := "dce30dc440b2446631321e2298b3f81d9bb0e4f1bde13b4d270d3e577715ae2b", func := "loop.example/g00104/laws.FnExactFloatNext", spec := "fnExactFloatNext", apart := false }
def FnExactFloatNextSaid : Prop := fnExactFloatNextRow.holds Try.pinned (OpenSpec.ofChange fnExactFloatNextSpec)

/-- ITS FALSE NEIGHBOUR: 'it returns false'. Refute it at one input. -/
def fnExactFloatNextWrong : ChangeSpec := { name := "fnExactFloatNext", fn := fun _ => fun
  | [d1, d2] => { results := [.lit (.bool false)], args := [d1, d2] }
  | _ => none }
def FnExactFloatNextWrongFalsely : Prop := fnExactFloatNextRow.holds Try.pinned (OpenSpec.ofChange fnExactFloatNextWrong)

/-- 'laws.FnExactGetTag': WHATEVER THE INPUT: true; the input reads as it did. -/
def fnExactGetTagSpec : ChangeSpec := { name := "fnExactGetTag", fn := fun _ => fun
  | [d1, d2] => { results := [.lit (.bool true)], args := [d1, d2] }
  | _ => none }
def fnExactGetTagRow : OpenClaim := { program := "ytmmdkjihigadcaa", sum := "dce30dc440b2446631321e2298b3f81d9bb0e4f1bde13b4d270d3e577715ae2b", func := "loop.example/g00104/laws.FnExactGetTag", spec := "fnExactGetTag", apart := false }
def FnExactGetTagSaid : Prop := fnExactGetTagRow.holds Try.pinned (OpenSpec.ofChange fnExactGetTagSpec)

/-- ITS FALSE NEIGHBOUR: 'it returns false'. Refute it at one input. -/
def fnExactGetTagWrong : ChangeSpec := { name := "fnExactGetTag", fn := fun _ => fun
  | [d1, d2] => { results := [.lit (.bool false)], args := [d1, d2] }
  | _ => none }
def FnExactGetTagWrongFalsely : Prop := fnExactGetTagRow.holds Try.pinned (OpenSpec.ofChange fnExactGetTagWrong)

/-- 'laws.FnExactFloatEqual': WHATEVER THE INPUT: true; the input reads as it did. -/
def fnExactFloatEqualSpec : ChangeSpec := { name := "fnExactFloatEqual", fn := fun _ => fun
  | [d1, d2, d3] => { results := [.lit (.bool true)], args := [d1, d2, d3] }
  | _ => none }
def fnExactFloatEqualRow : OpenClaim := { program := "ytmmdkjihigadcaa", sum := "dce30dc440b2446631321e2298b3f81d9bb0e4f1bde13b4d270d3e577715ae2b", func := "loop.example/g00104/laws.FnExactFloatEqual", spec := "fnExactFloatEqual", unfollowed := true, recurses := true, apart := false }
def FnExactFloatEqualSaid : Prop := fnExactFloatEqualRow.holds Try.pinned (OpenSpec.ofChange fnExactFloatEqualSpec)

/-- ITS FALSE NEIGHBOUR: 'it returns false'. Refute it at one input. -/
def fnExactFloatEqualWrong : ChangeSpec := { name := "fnExactFloatEqual", fn := fun _ => fun
  | [d1, d2, d3] => { results := [.lit (.bool false)], args := [d1, d2, d3] }
  | _ => none }
def FnExactFloatEqualWrongFalsely : Prop := fnExactFloatEqualRow.holds Try.pinned (OpenSpec.ofChange fnExactFloatEqualWrong)

/-- 'laws.FnExactNarrow': WHATEVER THE INPUT: true; the input reads as it did. -/
def fnExactNarrowSpec : ChangeSpec := { name := "fnExactNarrow", fn := fun _ => fun
  | [d] => { results := [.lit (.bool true)], args := [d] }
  | _ => none }
def fnExactNarrowRow : OpenClaim := { program := "ytmmdkjihigadcaa", sum := "dce30dc440b2446631321e2298b3f81d9bb0e4f1bde13b4d270d3e577715ae2b", func := "loop.example/g00104/laws.FnExactNarrow", spec := "fnExactNarrow", inPlace := ["math.Float64frombits", "math.Float32bits", "math.Float32frombits", "math.Float64bits"], apart := false }
def FnExactNarrowSaid : Prop := fnExactNarrowRow.holds Try.pinned (OpenSpec.ofChange fnExactNarrowSpec)

/-- ITS FALSE NEIGHBOUR: 'it returns false'. Refute it at one input. -/
def fnExactNarrowWrong : ChangeSpec := { name := "fnExactNarrow", fn := fun _ => fun
  | [d] => { results := [.lit (.bool false)], args := [d] }
  | _ => none }
def FnExactNarrowWrongFalsely : Prop := fnExactNarrowRow.holds Try.pinned (OpenSpec.ofChange fnExactNarrowWrong)

/-- 'laws.FnExactFloatOrder': WHATEVER THE INPUT: true; the input reads as it did. -/
def fnExactFloatOrderSpec : ChangeSpec := { name := "fnExactFloatOrder", fn := fun _ => fun
  | [d1, d2, d3] => { results := [.lit (.bool true)], args := [d1, d2, d3] }
  | _ => none }
def fnExactFloatOrderRow : OpenClaim := { program := "ytmmdkjihigadcaa", sum := "dce30dc440b2446631321e2298b3f81d9bb0e4f1bde13b4d270d3e577715ae2b", func := "loop.example/g00104/laws.FnExactFloatOrder", spec := "fnExactFloatOrder", unfollowed := true, recurses := true, apart := false }
def FnExactFloatOrderSaid : Prop := fnExactFloatOrderRow.holds Try.pinned (OpenSpec.ofChange fnExactFloatOrderSpec)

/-- ITS FALSE NEIGHBOUR: 'it returns false'. Refute it at one input. -/
def fnExactFloatOrderWrong : ChangeSpec := { name := "fnExactFloatOrder", fn := fun _ => fun
  | [d1, d2, d3] => { results := [.lit (.bool false)], args := [d1, d2, d3] }
  | _ => none }
def FnExactFloatOrderWrongFalsely : Prop := fnExactFloatOrderRow.holds Try.pinned (OpenSpec.ofChange fnExactFloatOrderWrong)

/-- 'laws.FnExactSkip': WHATEVER THE INPUT: true; the input reads as it did. -/
def fnExactSkipSpec : ChangeSpec := { name := "fnExactSkip", fn := fun _ => fun
  | [d1, d2, d3] => { results := [.lit (.bool true)], args := [d1, d2, d3] }
  | _ => none }
def fnExactSkipRow : OpenClaim := { program := "ytmmdkjihigadcaa", sum := "dce30dc440b2446631321e2298b3f81d9bb0e4f1bde13b4d270d3e577715ae2b", func := "loop.example/g00104/laws.FnExactSkip", spec := "fnExactSkip", apart := false }
def FnExactSkipSaid : Prop := fnExactSkipRow.holds Try.pinned (OpenSpec.ofChange fnExactSkipSpec)

/-- ITS FALSE NEIGHBOUR: 'it returns false'. Refute it at one input. -/
def fnExactSkipWrong : ChangeSpec := { name := "fnExactSkip", fn := fun _ => fun
  | [d1, d2, d3] => { results := [.lit (.bool false)], args := [d1, d2, d3] }
  | _ => none }
def FnExactSkipWrongFalsely : Prop := fnExactSkipRow.holds Try.pinned (OpenSpec.ofChange fnExactSkipWrong)

/-- 'laws.FnExactFloatLess': WHATEVER THE INPUT: true; the input reads as it did. -/
def fnExactFloatLessSpec : ChangeSpec := { name := "fnExactFloatLess", fn := fun _ => fun
  | [d1, d2, d3] => { results := [.lit (.bool true)], args := [d1, d2, d3] }
  | _ => none }
def fnExactFloatLessRow : OpenClaim := { program := "ytmmdkjihigadcaa", sum := "dce30dc440b2446631321e2298b3f81d9bb0e4f1bde13b4d270d3e577715ae2b", func := "loop.example/g00104/laws.FnExactFloatLess", spec := "fnExactFloatLess", unfollowed := true, recurses := true, apart := false }
def FnExactFloatLessSaid : Prop := fnExactFloatLessRow.holds Try.pinned (OpenSpec.ofChange fnExactFloatLessSpec)

/-- ITS FALSE NEIGHBOUR: 'it returns false'. Refute it at one input. -/
def fnExactFloatLessWrong : ChangeSpec := { name := "fnExactFloatLess", fn := fun _ => fun
  | [d1, d2, d3] => { results := [.lit (.bool false)], args := [d1, d2, d3] }
  | _ => none }
def FnExactFloatLessWrongFalsely : Prop := fnExactFloatLessRow.holds Try.pinned (OpenSpec.ofChange fnExactFloatLessWrong)

/-- 'laws.FnTags': WHATEVER THE INPUT: true; the input reads as it did. -/
def fnTagsSpec : ChangeSpec := { name := "fnTags", fn := fun _ => fun
  | [d] => { results := [.lit (.bool true)], args := [d] }
  | _ => none }
def fnTagsRow : OpenClaim := { program := "ytmmdkjihigadcaa", sum := "dce30dc440b2446631321e2298b3f81d9bb0e4f1bde13b4d270d3e577715ae2b", func := "loop.example/g00104/laws.FnTags", spec := "fnTags", apart := false }
def FnTagsSaid : Prop := fnTagsRow.holds Try.pinned (OpenSpec.ofChange fnTagsSpec)

/-- ITS FALSE NEIGHBOUR: 'it returns false'. Refute it at one input. -/
def fnTagsWrong : ChangeSpec := { name := "fnTags", fn := fun _ => fun
  | [d] => { results := [.lit (.bool false)], args := [d] }
  | _ => none }
def FnTagsWrongFalsely : Prop := fnTagsRow.holds Try.pinned (OpenSpec.ofChange fnTagsWrong)

/-- 'laws.FnNextFloat': WHATEVER THE INPUT: true; the input reads as it did. -/
def fnNextFloatSpec : ChangeSpec := { name := "fnNextFloat", fn := fun _ => fun
  | [d] => { results := [.lit (.bool true)], args := [d] }
  | _ => none }
def fnNextFloatRow : OpenClaim := { program := "ytmmdkjihigadcaa", sum := "dce30dc440b2446631321e2298b3f81d9bb0e4f1bde13b4d270d3e577715ae2b", func := "loop.example/g00104/laws.FnNextFloat", spec := "fnNextFloat", unfollowed := true, recurses := true, apart := false }
def FnNextFloatSaid : Prop := fnNextFloatRow.holds Try.pinned (OpenSpec.ofChange fnNextFloatSpec)

/-- ITS FALSE NEIGHBOUR: 'it returns false'. Refute it at one input. -/
def fnNextFloatWrong : ChangeSpec := { name := "fnNextFloat", fn := fun _ => fun
  | [d] => { results := [.lit (.bool false)], args := [d] }
  | _ => none }
def FnNextFloatWrongFalsely : Prop := fnNextFloatRow.holds Try.pinned (OpenSpec.ofChange fnNextFloatWrong)

/-- 'laws.FnWidened': WHATEVER THE INPUT: true; the input reads as it did. -/
def fnWidenedSpec : ChangeSpec := { name := "fnWidened", fn := fun _ => fun
  | [d] => { results := [.lit (.bool true)], args := [d] }
  | _ => none }
def fnWidenedRow : OpenClaim := { program := "ytmmdkjihigadcaa", sum := "dce30dc440b2446631321e2298b3f81d9bb0e4f1bde13b4d270d3e577715ae2b", func := "loop.example/g00104/laws.FnWidened", spec := "fnWidened", inPlace := ["math.Float32frombits", "math.Float64bits", "math.Float64frombits", "math.Float32bits"], unfollowed := true, recurses := true, apart := false }
def FnWidenedSaid : Prop := fnWidenedRow.holds Try.pinned (OpenSpec.ofChange fnWidenedSpec)

/-- ITS FALSE NEIGHBOUR: 'it returns false'. Refute it at one input. -/
def fnWidenedWrong : ChangeSpec := { name := "fnWidened", fn := fun _ => fun
  | [d] => { results := [.lit (.bool false)], args := [d] }
  | _ => none }
def FnWidenedWrongFalsely : Prop := fnWidenedRow.holds Try.pinned (OpenSpec.ofChange fnWidenedWrong)

/- THE SECOND FORM. 'bulk': how many values and letters a reading holds, each counted each time it is reached (what is shared counts as often as it is met; a slice's spare places count too). A statement '..UptoSaid' is the law's where the arguments, and the package variables that the reading takes, are together of bulk at most 1048576: NARROWER than '..Said'. Prove '..Said' where nothing that the law and all that it calls make is longer than what came in: it says more and counts as full. Else prove '..UptoSaid'. A law counts once. -/
mutual
def uptoBulk {H : Type} : DataW H → Nat
  | .lit (.string bytes) => bytes.length + 1
  | .lit _ => 1
  | .nil => 1
  | .ptr d => uptoBulk d + 1
  | .slice elems spare => uptoBulkAll elems + uptoBulkAll spare + 1
  | .agg parts => uptoBulkAll parts + 1
  | .iface _ d => uptoBulk d + 1
  | .map entries => uptoBulkEntries entries + 1
  | .held _ => 1
def uptoBulkAll {H : Type} : List (DataW H) → Nat
  | [] => 0
  | d :: r => uptoBulk d + uptoBulkAll r
def uptoBulkEntries {H : Type} : List (Lit × DataW H) → Nat
  | [] => 0
  | x :: r => uptoBulkEntry x + uptoBulkEntries r
def uptoBulkEntry {H : Type} : Lit × DataW H → Nat
  | (.string bytes, d) => bytes.length + uptoBulk d + 1
  | (_, d) => uptoBulk d + 1
 end
def uptoSmall : (H : Type) → List (DataW H) → Bool := fun _ ds => decide (uptoBulkAll ds ≤ 1048576)
def OpenSpec.upto (s : _root_.Go.ChangeSpec) : _root_.Go.OpenSpec := { _root_.Go.OpenSpec.ofChange s with cond := some uptoSmall }

/-- 'laws.FnExactWiden', WHERE WHAT IT READS IS OF BULK AT MOST 1048576: true; the input reads as it did. -/
def fnExactWidenUptoRow : OpenClaim := { program := "ytmmdkjihigadcaa", sum := "dce30dc440b2446631321e2298b3f81d9bb0e4f1bde13b4d270d3e577715ae2b", func := "loop.example/g00104/laws.FnExactWiden", spec := "fnExactWiden", inPlace := ["math.Float32frombits", "math.Float64bits"], apart := false, narrowed := true }
def FnExactWidenUptoSaid : Prop := fnExactWidenUptoRow.holds Try.pinned (OpenSpec.upto fnExactWidenSpec)

/-- 'laws.FnVarint', WHERE WHAT IT READS IS OF BULK AT MOST 1048576: true; the input reads as it did. -/
def fnVarintUptoRow : OpenClaim := { program := "ytmmdkjihigadcaa", sum := "dce30dc440b2446631321e2298b3f81d9bb0e4f1bde13b4d270d3e577715ae2b", func := "loop.example/g00104/laws.FnVarint", spec := "fnVarint", apart := false, narrowed := true }
def FnVarintUptoSaid : Prop := fnVarintUptoRow.holds Try.pinned (OpenSpec.upto fnVarintSpec)

/-- 'laws.FnExactFloatNext', WHERE WHAT IT READS IS OF BULK AT MOST 1048576: true; the input reads as it did. -/
def fnExactFloatNextUptoRow : OpenClaim := { program := "ytmmdkjihigadcaa", sum := "dce30dc440b2446631321e2298b3f81d9bb0e4f1bde13b4d270d3e577715ae2b", func := "loop.example/g00104/laws.FnExactFloatNext", spec := "fnExactFloatNext", apart := false, narrowed := true }
def FnExactFloatNextUptoSaid : Prop := fnExactFloatNextUptoRow.holds Try.pinned (OpenSpec.upto fnExactFloatNextSpec)

/-- 'laws.FnExactGetTag', WHERE WHAT IT READS IS OF BULK AT MOST 1048576: true; the input reads as it did. -/
def fnExactGetTagUptoRow : OpenClaim := { program := "ytmmdkjihigadcaa", sum := "dce30dc440b2446631321e2298b3f81d9bb0e4f1bde13b4d270d3e577715ae2b", func := "loop.example/g00104/laws.FnExactGetTag", spec := "fnExactGetTag", apart := false, narrowed := true }
def FnExactGetTagUptoSaid : Prop := fnExactGetTagUptoRow.holds Try.pinned (OpenSpec.upto fnExactGetTagSpec)

/-- 'laws.FnExactFloatEqual', WHERE WHAT IT READS IS OF BULK AT MOST 1048576: true; the input reads as it did. -/
def fnExactFloatEqualUptoRow : OpenClaim := { program := "ytmmdkjihigadcaa", sum := "dce30dc440b2446631321e2298b3f81d9bb0e4f1bde13b4d270d3e577715ae2b", func := "loop.example/g00104/laws.FnExactFloatEqual", spec := "fnExactFloatEqual", unfollowed := true, recurses := true, apart := false, narrowed := true }
def FnExactFloatEqualUptoSaid : Prop := fnExactFloatEqualUptoRow.holds Try.pinned (OpenSpec.upto fnExactFloatEqualSpec)

/-- 'laws.FnExactNarrow', WHERE WHAT IT READS IS OF BULK AT MOST 1048576: true; the input reads as it did. -/
def fnExactNarrowUptoRow : OpenClaim := { program := "ytmmdkjihigadcaa", sum := "dce30dc440b2446631321e2298b3f81d9bb0e4f1bde13b4d270d3e577715ae2b", func := "loop.example/g00104/laws.FnExactNarrow", spec := "fnExactNarrow", inPlace := ["math.Float64frombits", "math.Float32bits", "math.Float32frombits", "math.Float64bits"], apart := false, narrowed := true }
def FnExactNarrowUptoSaid : Prop := fnExactNarrowUptoRow.holds Try.pinned (OpenSpec.upto fnExactNarrowSpec)

/-- 'laws.FnExactFloatOrder', WHERE WHAT IT READS IS OF BULK AT MOST 1048576: true; the input reads as it did. -/
def fnExactFloatOrderUptoRow : OpenClaim := { program := "ytmmdkjihigadcaa", sum := "dce30dc440b2446631321e2298b3f81d9bb0e4f1bde13b4d270d3e577715ae2b", func := "loop.example/g00104/laws.FnExactFloatOrder", spec := "fnExactFloatOrder", unfollowed := true, recurses := true, apart := false, narrowed := true }
def FnExactFloatOrderUptoSaid : Prop := fnExactFloatOrderUptoRow.holds Try.pinned (OpenSpec.upto fnExactFloatOrderSpec)

/-- 'laws.FnExactSkip', WHERE WHAT IT READS IS OF BULK AT MOST 1048576: true; the input reads as it did. -/
def fnExactSkipUptoRow : OpenClaim := { program := "ytmmdkjihigadcaa", sum := "dce30dc440b2446631321e2298b3f81d9bb0e4f1bde13b4d270d3e577715ae2b", func := "loop.example/g00104/laws.FnExactSkip", spec := "fnExactSkip", apart := false, narrowed := true }
def FnExactSkipUptoSaid : Prop := fnExactSkipUptoRow.holds Try.pinned (OpenSpec.upto fnExactSkipSpec)

/-- 'laws.FnExactFloatLess', WHERE WHAT IT READS IS OF BULK AT MOST 1048576: true; the input reads as it did. -/
def fnExactFloatLessUptoRow : OpenClaim := { program := "ytmmdkjihigadcaa", sum := "dce30dc440b2446631321e2298b3f81d9bb0e4f1bde13b4d270d3e577715ae2b", func := "loop.example/g00104/laws.FnExactFloatLess", spec := "fnExactFloatLess", unfollowed := true, recurses := true, apart := false, narrowed := true }
def FnExactFloatLessUptoSaid : Prop := fnExactFloatLessUptoRow.holds Try.pinned (OpenSpec.upto fnExactFloatLessSpec)

/-- 'laws.FnTags', WHERE WHAT IT READS IS OF BULK AT MOST 1048576: true; the input reads as it did. -/
def fnTagsUptoRow : OpenClaim := { program := "ytmmdkjihigadcaa", sum := "dce30dc440b2446631321e2298b3f81d9bb0e4f1bde13b4d270d3e577715ae2b", func := "loop.example/g00104/laws.FnTags", spec := "fnTags", apart := false, narrowed := true }
def FnTagsUptoSaid : Prop := fnTagsUptoRow.holds Try.pinned (OpenSpec.upto fnTagsSpec)

/-- 'laws.FnNextFloat', WHERE WHAT IT READS IS OF BULK AT MOST 1048576: true; the input reads as it did. -/
def fnNextFloatUptoRow : OpenClaim := { program := "ytmmdkjihigadcaa", sum := "dce30dc440b2446631321e2298b3f81d9bb0e4f1bde13b4d270d3e577715ae2b", func := "loop.example/g00104/laws.FnNextFloat", spec := "fnNextFloat", unfollowed := true, recurses := true, apart := false, narrowed := true }
def FnNextFloatUptoSaid : Prop := fnNextFloatUptoRow.holds Try.pinned (OpenSpec.upto fnNextFloatSpec)

/-- 'laws.FnWidened', WHERE WHAT IT READS IS OF BULK AT MOST 1048576: true; the input reads as it did. -/
def fnWidenedUptoRow : OpenClaim := { program := "ytmmdkjihigadcaa", sum := "dce30dc440b2446631321e2298b3f81d9bb0e4f1bde13b4d270d3e577715ae2b", func := "loop.example/g00104/laws.FnWidened", spec := "fnWidened", inPlace := ["math.Float32frombits", "math.Float64bits", "math.Float64frombits", "math.Float32bits"], unfollowed := true, recurses := true, apart := false, narrowed := true }
def FnWidenedUptoSaid : Prop := fnWidenedUptoRow.holds Try.pinned (OpenSpec.upto fnWidenedSpec)

end Rows
end Go.Proofs.Ytmmdkjihigadcaa
