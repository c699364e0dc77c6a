/- The parameters of FnExactSameMsg opened into what the print speaks of, and its one pure statement: laid by a program of this session (wip/rowx.py). -/
import Derived.Test.YtnchbgiojdijbaaPFnExactSameMsgx4
import Derived.Test.YtnchbgiojdijbaaOp
namespace Go.Proofs.Ytnchbgiojdijbaa.RFnExactSameMsg
open Go Go.RowKit Go.Proofs.YtnchbgiojdijbaaW.PrintWords Go.Proofs.YtnchbgiojdijbaaW.PrintLast Go.Proofs.Ytnchbgiojdijbaa.PFnExactSameMsg Go.Proofs.Ytnchbgiojdijbaa.Op
/-- What is so of each value of the type 123, that holds others of its own. -/
inductive Good123 : S123 → Prop
  | mk (x : S123) (h0 : (Lit.int .i64 x.f0).wf = true) (h1 : x.f1.size ≤ maxLen) (h2 : x.f2.f0.length ≤ maxLen) (h3 : ∀ y1 ∈ x.f2.f0, (Lit.int .i64 y1.f0).wf = true) (h4 : ∀ y1 ∈ x.f2.f0, y1.f1.length ≤ maxLen) (h5 : ∀ y1 ∈ x.f2.f0, ∀ y2 ∈ y1.f1, Good123 y2) (h6 : x.f2.f1.length ≤ maxLen) (h7 : ∀ y3 ∈ x.f2.f1, (Lit.int .u8 y3).wf = true) : Good123 x
/-- What is so of each value of the type 115. -/
def good115 (x : S115) : Prop := (Lit.int .i64 x.f0).wf = true ∧ (x.f1.length ≤ maxLen ∧ ∀ x4 ∈ x.f1, Good123 x4)
set_option maxRecDepth 100000 in
theorem opG115 (N : Nat) (hr : ∀ M, M < N → Opn Try.prog M 123 k123 Good123) : Opn Try.prog N 115 k115 good115 := by
  have hs : Opn Try.prog N 115 (Kd.pair (Kd.int .i64) (Kd.slice 123 k123)) (fun x => (Lit.int .i64 x.1).wf = true ∧ (x.2.length ≤ maxLen ∧ ∀ x3 ∈ x.2, Good123 x3)) := op_struct Try.underlying115 (by kernel_rfl) (fun M_ hM_ => (opf_cons rfl (op_int Try.underlying3 (by kernel_rfl)) rfl (opf_last rfl (op_slice Try.underlying113 (by kernel_rfl) (by kernel_rfl) (fun M_ hM_ => (hr M_ (by omega)))))))
  exact op_as (fun y : _ × _ => (⟨y.1, y.2⟩ : S115)) (by kernel_rfl) (fun y h => h) (fun W y cs hK => hK) hs
/-- What is so of each value of the type 52. -/
def good52 (x : S52) : Prop := (x.f0.length ≤ maxLen ∧ ∀ x4 ∈ x.f0, good115 x4) ∧ (x.f1.length ≤ maxLen ∧ ∀ x4 ∈ x.f1, (Lit.int .u8 x4).wf = true)
set_option maxRecDepth 100000 in
theorem opG52 (N : Nat) (hr : ∀ M, M < N → Opn Try.prog M 123 k123 Good123) : Opn Try.prog N 52 k52 good52 := by
  have hs : Opn Try.prog N 52 (Kd.pair (Kd.slice 115 k115) (Kd.slice 5 (Kd.int .u8))) (fun x => (x.1.length ≤ maxLen ∧ ∀ x3 ∈ x.1, good115 x3) ∧ (x.2.length ≤ maxLen ∧ ∀ x3 ∈ x.2, (Lit.int .u8 x3).wf = true)) := op_struct Try.underlying52 (by kernel_rfl) (fun M_ hM_ => (opf_cons rfl (op_slice Try.underlying50 (by kernel_rfl) (by kernel_rfl) (fun M_ hM_ => (opG115 M_ (fun M2_ h2_ => hr M2_ (by omega))))) rfl (opf_last rfl (op_slice Try.underlying22 (by kernel_rfl) (by kernel_rfl) (fun M_ hM_ => (op_int Try.underlying5 (by kernel_rfl)))))))
  exact op_as (fun y : _ × _ => (⟨y.1, y.2⟩ : S52)) (by kernel_rfl) (fun y h => h) (fun W y cs hK => hK) hs
set_option maxRecDepth 100000 in
theorem op123 : ∀ N, Opn Try.prog N 123 k123 Good123 := by
  intro N
  induction N using Nat.strongRecOn with
  | _ N ih =>
  have hs : Opn Try.prog N 123 (Kd.pair (Kd.int .i64) (Kd.pair Kd.string k52)) (fun x => (Lit.int .i64 x.1).wf = true ∧ x.2.1.size ≤ maxLen ∧ good52 x.2.2) := op_struct Try.underlying123 (by kernel_rfl) (fun M_ hM_ => (opf_cons rfl (op_int Try.underlying3 (by kernel_rfl)) rfl (opf_cons rfl (op_string Try.underlying9 (by kernel_rfl)) rfl (opf_last rfl (opG52 M_ (fun M2_ h2_ => ih M2_ (by omega)))))))
  refine op_as (fun y => (⟨y.1, y.2.1, y.2.2⟩ : S123)) (by kernel_rfl) (fun y h => Good123.mk _ (h.1) (h.2.1) (h.2.2.1.1) (fun y1 hy1 => (h.2.2.1.2 y1 hy1).1) (fun y1 hy1 => (h.2.2.1.2 y1 hy1).2.1) (fun y1 hy1 y2 hy2 => ((h.2.2.1.2 y1 hy1).2.2 y2 hy2)) (h.2.2.2.1) (fun y3 hy3 => (h.2.2.2.2 y3 hy3))) (fun W y cs hK => ?_) hs
  obtain ⟨_, _, rfl, rfl, ⟨_, _, rfl, rfl, s2⟩⟩ := hK
  obtain ⟨A2_0, c2_0, A2_1, c2_1, rfl, l2_0, g2_0, l2_1, g2_1⟩ := k52_open s2
  exact k123_mk W _ l2_0 g2_0 l2_1 g2_1
theorem op115 (N : Nat) : Opn Try.prog N 115 k115 good115 := opG115 N (fun M _ => op123 M)
theorem op52 (N : Nat) : Opn Try.prog N 52 k52 good52 := opG52 N (fun M _ => op123 M)
set_option maxRecDepth 100000 in
/-- The parameter 0, opened. -/
theorem opa0 (N : Nat) : Opn Try.prog N 52 (Kd.pair (Kd.slice 115 k115) (Kd.slice 5 (Kd.int .u8))) (fun x => (x.1.length ≤ maxLen ∧ ∀ x3 ∈ x.1, good115 x3) ∧ (x.2.length ≤ maxLen ∧ ∀ x3 ∈ x.2, (Lit.int .u8 x3).wf = true)) :=
  op_struct Try.underlying52 (by kernel_rfl) (fun _ _ => (opf_cons rfl (op_slice Try.underlying50 (by kernel_rfl) (by kernel_rfl) (fun M_ hM_ => (op115 _))) rfl (opf_last rfl (op_slice Try.underlying22 (by kernel_rfl) (by kernel_rfl) (fun M_ hM_ => (op_int Try.underlying5 (by kernel_rfl)))))))
set_option maxRecDepth 100000 in
/-- The parameter 1, opened. -/
theorem opa1 (N : Nat) : Opn Try.prog N 52 (Kd.pair (Kd.slice 115 k115) (Kd.slice 5 (Kd.int .u8))) (fun x => (x.1.length ≤ maxLen ∧ ∀ x3 ∈ x.1, good115 x3) ∧ (x.2.length ≤ maxLen ∧ ∀ x3 ∈ x.2, (Lit.int .u8 x3).wf = true)) :=
  op_struct Try.underlying52 (by kernel_rfl) (fun _ _ => (opf_cons rfl (op_slice Try.underlying50 (by kernel_rfl) (by kernel_rfl) (fun M_ hM_ => (op115 _))) rfl (opf_last rfl (op_slice Try.underlying22 (by kernel_rfl) (by kernel_rfl) (fun M_ hM_ => (op_int Try.underlying5 (by kernel_rfl)))))))
/-- THE ONE PURE STATEMENT of laws_FnExactSameMsg. -/
def Pure : Prop := ∀ (l0_0 : List (S115)) (l0_1 : List Int) (l1_0 : List (S115)) (l1_1 : List Int), (l0_0.length ≤ maxLen ∧ ∀ x4 ∈ l0_0, good115 x4) → (l0_1.length ≤ maxLen ∧ ∀ x4 ∈ l0_1, (Lit.int .u8 x4).wf = true) → (l1_0.length ≤ maxLen ∧ ∀ x4 ∈ l1_0, good115 x4) → (l1_1.length ≤ maxLen ∧ ∀ x4 ∈ l1_1, (Lit.int .u8 x4).wf = true) → ∃ k, laws_FnExactSameMsg.f k l0_0 l0_1 l1_0 l1_1 = some true
end Go.Proofs.Ytnchbgiojdijbaa.RFnExactSameMsg
