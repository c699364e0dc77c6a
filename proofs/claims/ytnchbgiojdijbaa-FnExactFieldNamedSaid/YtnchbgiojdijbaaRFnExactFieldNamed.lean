/- The parameters of FnExactFieldNamed opened into what the print speaks of, and its one pure statement: laid by a program of this session (wip/rowx.py). -/
import Derived.Test.YtnchbgiojdijbaaPFnExactFieldNamedx3
import Derived.Test.YtnchbgiojdijbaaOp
namespace Go.Proofs.Ytnchbgiojdijbaa.RFnExactFieldNamed
open Go Go.RowKit Go.Proofs.YtnchbgiojdijbaaW.PrintWords Go.Proofs.YtnchbgiojdijbaaW.PrintLast Go.Proofs.Ytnchbgiojdijbaa.PFnExactFieldNamed Go.Proofs.Ytnchbgiojdijbaa.Op
/-- What is so of each value of the type 109. -/
def good109 (x : S109) : Prop := x.f0.size ≤ maxLen ∧ (Lit.int .i64 x.f1).wf = true ∧ (Lit.int .i64 x.f2).wf = true ∧ (Lit.int .i64 x.f3).wf = true ∧ True ∧ (Lit.int .i64 x.f5).wf = true
set_option maxRecDepth 100000 in
theorem op109 : Opn Try.prog 109 k109 good109 :=
  op_iso _ (fun y => (⟨y.1, y.2.1, y.2.2.1, y.2.2.2.1, y.2.2.2.2.1, y.2.2.2.2.2⟩ : S109)) (fun _ => rfl) (op_struct Try.underlying109 (by kernel_rfl) (opf_cons rfl (op_string Try.underlying9 (by kernel_rfl)) rfl (opf_cons rfl (op_int Try.underlying3 (by kernel_rfl)) rfl (opf_cons rfl (op_int Try.underlying3 (by kernel_rfl)) rfl (opf_cons rfl (op_int Try.underlying3 (by kernel_rfl)) rfl (opf_cons rfl (op_bool Try.underlying4 (by kernel_rfl)) rfl (opf_last rfl (op_int Try.underlying3 (by kernel_rfl)))))))))
set_option maxRecDepth 100000 in
/-- The parameter 0, opened. -/
theorem opa0 : Opn Try.prog 39 (Kd.pair Kd.string (Kd.pair (Kd.slice 109 k109) (Kd.slice 9 Kd.string))) (fun x => x.1.size ≤ maxLen ∧ (x.2.1.length ≤ maxLen ∧ ∀ x5 ∈ x.2.1, good109 x5) ∧ (x.2.2.length ≤ maxLen ∧ ∀ x5 ∈ x.2.2, x5.size ≤ maxLen)) :=
  op_struct Try.underlying39 (by kernel_rfl) (opf_cons rfl (op_string Try.underlying9 (by kernel_rfl)) rfl (opf_cons rfl (op_slice Try.underlying36 (by kernel_rfl) op109) rfl (opf_last rfl (op_slice Try.underlying37 (by kernel_rfl) (op_string Try.underlying9 (by kernel_rfl))))))
/-- THE ONE PURE STATEMENT of laws_FnExactFieldNamed. -/
def Pure : Prop := ∀ (a0_0 : ByteArray) (l0_1 : List (S109)) (l0_2 : List ByteArray) (a1 : ByteArray), a0_0.size ≤ maxLen → (l0_1.length ≤ maxLen ∧ ∀ x4 ∈ l0_1, good109 x4) → (l0_2.length ≤ maxLen ∧ ∀ x4 ∈ l0_2, x4.size ≤ maxLen) → a1.size ≤ maxLen → ∃ k, laws_FnExactFieldNamed.f k a0_0 l0_1 l0_2 a1 = some true
end Go.Proofs.Ytnchbgiojdijbaa.RFnExactFieldNamed
