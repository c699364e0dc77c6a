/-
  NARROWER THAN 'FOR EVERY INPUT', by the rows' own cells (each row's printed sentence says how): FnExactDepthOf: loops · FnExactSameMsg: loops.
  DERIVED. THE GIVEN ROWS OF THIS SEAT. 6 by the template 'for every input the law returns true; each argument reads behind the call as it read before'; 0 by the template 'total and deterministic' (their statements: YtnchbgiojdijbaaTotals.lean).
  GIVEN WITH THE SEED: the statements are not yours to turn. If you find one false, say at which input.
  Laid BY PROGRAM, IN A SANDBOX (cutbox-rows.mjs): the forced cells as the released guide's own fill.sh prints them over the translation ab620d388c9e749f… (all of the seat's roots in one cut). By AI agents, Wed Nov 11 2026. No macro, syntax, notation, axiom, sorry.
-/
import Derived.Test.YtnchbgiojdijbaaChecked
import GoSem.Claim
import GoSem.ClaimJoined
import GoSem.ClaimMapViews
import Derived.JoinedTies
import Derived.KernelRfl
namespace Go.Proofs.Ytnchbgiojdijbaa
/- THE CELL 'sum', in the pinned program and in every row, IS THE sha256 OF THE DUMP (.gsa) THAT YtnchbgiojdijbaaProg.lean LOADS. Nothing in Lean hashes anything: it is a label: what it is worth is what the hold of that sum in a sandbox is worth. -/
noncomputable def Try.pinned : Pinned := { name := "ytnchbgiojdijbaa", sum := "ab620d388c9e749fe448a7fc72fdac7f43b140fe4760aa9c56098f47a3466a56", checked := Try.checked }
namespace Rows
def none {H : Type} : Left H := { results := [], args := [] }

/-- 'laws.FnWords': WHATEVER THE INPUT: true; the input reads as it did. -/
def fnWordsSpec : ChangeSpec := { name := "fnWords", fn := fun _ => fun
  | [d] => { results := [.lit (.bool true)], args := [d] }
  | _ => none }
def fnWordsRow : OpenClaim := { program := "ytnchbgiojdijbaa", sum := "ab620d388c9e749fe448a7fc72fdac7f43b140fe4760aa9c56098f47a3466a56", func := "loop.example/g00104/laws.FnWords", spec := "fnWords", inPlace := ["internal/bytealg.IndexByteString"], apart := false }
def FnWordsSaid : Prop := fnWordsRow.holds Try.pinned (OpenSpec.ofChange fnWordsSpec)

/-- ITS FALSE NEIGHBOUR: 'it returns false'. Refute it at one input. -/
def fnWordsWrong : ChangeSpec := { name := "fnWords", fn := fun _ => fun
  | [d] => { results := [.lit (.bool false)], args := [d] }
  | _ => none }
def FnWordsWrongFalsely : Prop := fnWordsRow.holds Try.pinned (OpenSpec.ofChange fnWordsWrong)

/-- 'laws.FnExactLex': WHATEVER THE INPUT: true; the input reads as it did. -/
def fnExactLexSpec : ChangeSpec := { name := "fnExactLex", fn := fun _ => fun
  | [d] => { results := [.lit (.bool true)], args := [d] }
  | _ => none }
def fnExactLexRow : OpenClaim := { program := "ytnchbgiojdijbaa", sum := "ab620d388c9e749fe448a7fc72fdac7f43b140fe4760aa9c56098f47a3466a56", func := "loop.example/g00104/laws.FnExactLex", spec := "fnExactLex", inPlace := ["internal/bytealg.IndexByteString"], apart := false }
def FnExactLexSaid : Prop := fnExactLexRow.holds Try.pinned (OpenSpec.ofChange fnExactLexSpec)

/-- ITS FALSE NEIGHBOUR: 'it returns false'. Refute it at one input. -/
def fnExactLexWrong : ChangeSpec := { name := "fnExactLex", fn := fun _ => fun
  | [d] => { results := [.lit (.bool false)], args := [d] }
  | _ => none }
def FnExactLexWrongFalsely : Prop := fnExactLexRow.holds Try.pinned (OpenSpec.ofChange fnExactLexWrong)

/-- 'laws.FnExactFieldAt': WHATEVER THE INPUT: true; the input reads as it did. -/
def fnExactFieldAtSpec : ChangeSpec := { name := "fnExactFieldAt", fn := fun _ => fun
  | [d1, d2] => { results := [.lit (.bool true)], args := [d1, d2] }
  | _ => none }
def fnExactFieldAtRow : OpenClaim := { program := "ytnchbgiojdijbaa", sum := "ab620d388c9e749fe448a7fc72fdac7f43b140fe4760aa9c56098f47a3466a56", func := "loop.example/g00104/laws.FnExactFieldAt", spec := "fnExactFieldAt", unfollowed := true, recurses := true, apart := false }
def FnExactFieldAtSaid : Prop := fnExactFieldAtRow.holds Try.pinned (OpenSpec.ofChange fnExactFieldAtSpec)

/-- ITS FALSE NEIGHBOUR: 'it returns false'. Refute it at one input. -/
def fnExactFieldAtWrong : ChangeSpec := { name := "fnExactFieldAt", fn := fun _ => fun
  | [d1, d2] => { results := [.lit (.bool false)], args := [d1, d2] }
  | _ => none }
def FnExactFieldAtWrongFalsely : Prop := fnExactFieldAtRow.holds Try.pinned (OpenSpec.ofChange fnExactFieldAtWrong)

/-- 'laws.FnExactFieldNamed': WHATEVER THE INPUT: true; the input reads as it did. -/
def fnExactFieldNamedSpec : ChangeSpec := { name := "fnExactFieldNamed", fn := fun _ => fun
  | [d1, d2] => { results := [.lit (.bool true)], args := [d1, d2] }
  | _ => none }
def fnExactFieldNamedRow : OpenClaim := { program := "ytnchbgiojdijbaa", sum := "ab620d388c9e749fe448a7fc72fdac7f43b140fe4760aa9c56098f47a3466a56", func := "loop.example/g00104/laws.FnExactFieldNamed", spec := "fnExactFieldNamed", unfollowed := true, recurses := true, apart := false }
def FnExactFieldNamedSaid : Prop := fnExactFieldNamedRow.holds Try.pinned (OpenSpec.ofChange fnExactFieldNamedSpec)

/-- ITS FALSE NEIGHBOUR: 'it returns false'. Refute it at one input. -/
def fnExactFieldNamedWrong : ChangeSpec := { name := "fnExactFieldNamed", fn := fun _ => fun
  | [d1, d2] => { results := [.lit (.bool false)], args := [d1, d2] }
  | _ => none }
def FnExactFieldNamedWrongFalsely : Prop := fnExactFieldNamedRow.holds Try.pinned (OpenSpec.ofChange fnExactFieldNamedWrong)

/-- 'laws.FnExactDepthOf': WHATEVER THE INPUT: true; the input reads as it did. -/
def fnExactDepthOfSpec : ChangeSpec := { name := "fnExactDepthOf", fn := fun _ => fun
  | [d] => { results := [.lit (.bool true)], args := [d] }
  | _ => none }
def fnExactDepthOfRow : OpenClaim := { program := "ytnchbgiojdijbaa", sum := "ab620d388c9e749fe448a7fc72fdac7f43b140fe4760aa9c56098f47a3466a56", func := "loop.example/g00104/laws.FnExactDepthOf", spec := "fnExactDepthOf", recurses := true, loops := true, apart := false }
def FnExactDepthOfSaid : Prop := fnExactDepthOfRow.holds Try.pinned (OpenSpec.ofChange fnExactDepthOfSpec)

/-- ITS FALSE NEIGHBOUR: 'it returns false'. Refute it at one input. -/
def fnExactDepthOfWrong : ChangeSpec := { name := "fnExactDepthOf", fn := fun _ => fun
  | [d] => { results := [.lit (.bool false)], args := [d] }
  | _ => none }
def FnExactDepthOfWrongFalsely : Prop := fnExactDepthOfRow.holds Try.pinned (OpenSpec.ofChange fnExactDepthOfWrong)

/-- 'laws.FnExactSameMsg': WHATEVER THE INPUT: true; the input reads as it did. -/
def fnExactSameMsgSpec : ChangeSpec := { name := "fnExactSameMsg", fn := fun _ => fun
  | [d1, d2] => { results := [.lit (.bool true)], args := [d1, d2] }
  | _ => none }
def fnExactSameMsgRow : OpenClaim := { program := "ytnchbgiojdijbaa", sum := "ab620d388c9e749fe448a7fc72fdac7f43b140fe4760aa9c56098f47a3466a56", func := "loop.example/g00104/laws.FnExactSameMsg", spec := "fnExactSameMsg", unfollowed := true, recurses := true, loops := true, apart := false }
def FnExactSameMsgSaid : Prop := fnExactSameMsgRow.holds Try.pinned (OpenSpec.ofChange fnExactSameMsgSpec)

/-- ITS FALSE NEIGHBOUR: 'it returns false'. Refute it at one input. -/
def fnExactSameMsgWrong : ChangeSpec := { name := "fnExactSameMsg", fn := fun _ => fun
  | [d1, d2] => { results := [.lit (.bool false)], args := [d1, d2] }
  | _ => none }
def FnExactSameMsgWrongFalsely : Prop := fnExactSameMsgRow.holds Try.pinned (OpenSpec.ofChange fnExactSameMsgWrong)

/- THE SECOND FORM. 'bulk': how many values and letters a reading holds, each counted each time it is reached (what is shared counts as often as it is met; a slice's spare places count too). A statement '..UptoSaid' is the law's where the arguments, and the package variables that the reading takes, are together of bulk at most 1048576: NARROWER than '..Said'. Prove '..Said' where nothing that the law and all that it calls make is longer than what came in: it says more and counts as full. Else prove '..UptoSaid'. A law counts once. -/
mutual
def uptoBulk {H : Type} : DataW H → Nat
  | .lit (.string bytes) => bytes.length + 1
  | .lit _ => 1
  | .nil => 1
  | .ptr d => uptoBulk d + 1
  | .slice elems spare => uptoBulkAll elems + uptoBulkAll spare + 1
  | .agg parts => uptoBulkAll parts + 1
  | .iface _ d => uptoBulk d + 1
  | .map entries => uptoBulkEntries entries + 1
  | .held _ => 1
def uptoBulkAll {H : Type} : List (DataW H) → Nat
  | [] => 0
  | d :: r => uptoBulk d + uptoBulkAll r
def uptoBulkEntries {H : Type} : List (Lit × DataW H) → Nat
  | [] => 0
  | x :: r => uptoBulkEntry x + uptoBulkEntries r
def uptoBulkEntry {H : Type} : Lit × DataW H → Nat
  | (.string bytes, d) => bytes.length + uptoBulk d + 1
  | (_, d) => uptoBulk d + 1
 end
def uptoSmall : (H : Type) → List (DataW H) → Bool := fun _ ds => decide (uptoBulkAll ds ≤ 1048576)
def OpenSpec.upto (s : _root_.Go.ChangeSpec) : _root_.Go.OpenSpec := { _root_.Go.OpenSpec.ofChange s with cond := some uptoSmall }

/-- 'laws.FnWords', WHERE WHAT IT READS IS OF BULK AT MOST 1048576: true; the input reads as it did. -/
def fnWordsUptoRow : OpenClaim := { program := "ytnchbgiojdijbaa", sum := "ab620d388c9e749fe448a7fc72fdac7f43b140fe4760aa9c56098f47a3466a56", func := "loop.example/g00104/laws.FnWords", spec := "fnWords", inPlace := ["internal/bytealg.IndexByteString"], apart := false, narrowed := true }
def FnWordsUptoSaid : Prop := fnWordsUptoRow.holds Try.pinned (OpenSpec.upto fnWordsSpec)

/-- 'laws.FnExactLex', WHERE WHAT IT READS IS OF BULK AT MOST 1048576: true; the input reads as it did. -/
def fnExactLexUptoRow : OpenClaim := { program := "ytnchbgiojdijbaa", sum := "ab620d388c9e749fe448a7fc72fdac7f43b140fe4760aa9c56098f47a3466a56", func := "loop.example/g00104/laws.FnExactLex", spec := "fnExactLex", inPlace := ["internal/bytealg.IndexByteString"], apart := false, narrowed := true }
def FnExactLexUptoSaid : Prop := fnExactLexUptoRow.holds Try.pinned (OpenSpec.upto fnExactLexSpec)

/-- 'laws.FnExactFieldAt', WHERE WHAT IT READS IS OF BULK AT MOST 1048576: true; the input reads as it did. -/
def fnExactFieldAtUptoRow : OpenClaim := { program := "ytnchbgiojdijbaa", sum := "ab620d388c9e749fe448a7fc72fdac7f43b140fe4760aa9c56098f47a3466a56", func := "loop.example/g00104/laws.FnExactFieldAt", spec := "fnExactFieldAt", unfollowed := true, recurses := true, apart := false, narrowed := true }
def FnExactFieldAtUptoSaid : Prop := fnExactFieldAtUptoRow.holds Try.pinned (OpenSpec.upto fnExactFieldAtSpec)

/-- 'laws.FnExactFieldNamed', WHERE WHAT IT READS IS OF BULK AT MOST 1048576: true; the input reads as it did. -/
def fnExactFieldNamedUptoRow : OpenClaim := { program := "ytnchbgiojdijbaa", sum := "ab620d388c9e749fe448a7fc72fdac7f43b140fe4760aa9c56098f47a3466a56", func := "loop.example/g00104/laws.FnExactFieldNamed", spec := "fnExactFieldNamed", unfollowed := true, recurses := true, apart := false, narrowed := true }
def FnExactFieldNamedUptoSaid : Prop := fnExactFieldNamedUptoRow.holds Try.pinned (OpenSpec.upto fnExactFieldNamedSpec)

/-- 'laws.FnExactDepthOf', WHERE WHAT IT READS IS OF BULK AT MOST 1048576: true; the input reads as it did. -/
def fnExactDepthOfUptoRow : OpenClaim := { program := "ytnchbgiojdijbaa", sum := "ab620d388c9e749fe448a7fc72fdac7f43b140fe4760aa9c56098f47a3466a56", func := "loop.example/g00104/laws.FnExactDepthOf", spec := "fnExactDepthOf", recurses := true, loops := true, apart := false, narrowed := true }
def FnExactDepthOfUptoSaid : Prop := fnExactDepthOfUptoRow.holds Try.pinned (OpenSpec.upto fnExactDepthOfSpec)

/-- 'laws.FnExactSameMsg', WHERE WHAT IT READS IS OF BULK AT MOST 1048576: true; the input reads as it did. -/
def fnExactSameMsgUptoRow : OpenClaim := { program := "ytnchbgiojdijbaa", sum := "ab620d388c9e749fe448a7fc72fdac7f43b140fe4760aa9c56098f47a3466a56", func := "loop.example/g00104/laws.FnExactSameMsg", spec := "fnExactSameMsg", unfollowed := true, recurses := true, loops := true, apart := false, narrowed := true }
def FnExactSameMsgUptoSaid : Prop := fnExactSameMsgUptoRow.holds Try.pinned (OpenSpec.upto fnExactSameMsgSpec)

end Rows
end Go.Proofs.Ytnchbgiojdijbaa
