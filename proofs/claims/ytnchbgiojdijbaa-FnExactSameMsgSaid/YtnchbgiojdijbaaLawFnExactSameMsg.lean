/- The row of FnExactSameMsg, out of its pure statement and the printed contract: laid by a program of this session (wip/rowx.py). -/
import Derived.Test.YtnchbgiojdijbaaRows
import Derived.Test.YtnchbgiojdijbaaPFnExactSameMsgx4
import Derived.Test.YtnchbgiojdijbaaRFnExactSameMsg
import Derived.Test.YtnchbgiojdijbaaPureFnExactSameMsg
import Derived.WalkKit
import Derived.ProofKit
import Derived.OpenShut
import Derived.ShutString
import Derived.ChangeOld
import Derived.Below
import Derived.SizedLaws
import Derived.Carry
namespace Go.Proofs.Ytnchbgiojdijbaa.fnExactSameMsg
open Go.ChangeShapes Go.WideShapes Go.ChangeAt Go.RowKit Go.Proofs.YtnchbgiojdijbaaW.PrintWords
open Go.ChangeMaps (open_string shut_string)
set_option linter.unusedVariables false
theorem own : ownKnob Try.prog.godebug = none := by kernel_rfl
theorem laidOut : laidOutB Try.prog = true := by kernel_rfl
set_option maxRecDepth 100000 in
theorem lifted (os : Os) (started : os.Started) (H : Type) (enc : TypeId × Value → H) :
    ReturnsInHanded {} Try.checked os 8 .any (Rows.fnExactSameMsgSpec.pre6 enc Try.prog Try.f8 Rows.fnExactSameMsgRow.domain false) (Rows.fnExactSameMsgSpec.post enc Try.prog Try.f8 false true false false) := by
  refine returnsInHanded_of_change_sized (C := Try.checked) own started (by kernel_rfl) Try.func8
    (ChangeSpec.witness6 (enc := enc) (C := Try.checked) false ⟨#[], #[.agg #[.slice none 0 0, .slice none 0 0], .agg #[.slice none 0 0, .slice none 0 0]], []⟩ 8 (by kernel_rfl) (by kernel_rfl) (by kernel_rfl) (by kernel_rfl)) ?_
  intro W base args ds gs before hval0 hW hcnd hsz0 _
  have hval : ∀ (j : Nat) t v, Try.f8.params[j]? = some t → args[j]? = some v → Value.okWide Try.prog W .any base t v := hval0
  have hW' := hW
  obtain ⟨p, q, hA0, hV, rfl, hfz, hnd⟩ := hW
  have hA : DataW.TrodAll enc Try.prog W 0 (fun _ => true) true Try.f8.params.toList args.toList ds p := hA0
  rw [Try.params8] at hA hval
  obtain ⟨v0, vs0, d0, ds0, p0, q0, hargs, rfl, rfl, h0, r0⟩ := trodAll_cons hA
  obtain ⟨v1, vs1, d1, ds1, p1, q1, rfl, rfl, rfl, h1, r1⟩ := trodAll_cons r0
  obtain ⟨rfl, rfl, rfl⟩ := trodAll_nil r1
  obtain rfl : args = #[v0, v1] := by cases args; simp_all
  obtain ⟨rfl, rfl⟩ := trodVars_none hV
  obtain ⟨cs0, rfl, _⟩ := okWide_struct Try.underlying52 (hval 0 52 v0 rfl rfl)
  have k0 := h0
  have lt0 : ∀ x ∈ p0, x.block < W.heap.size := by obtain ⟨m, hm⟩ := k0; exact DataW.trod_lt m _ _ _ hm
  obtain ⟨x0, w0, K0⟩ := (show ∃ fuel, DataW.trod enc Try.prog W 0 (fun _ => true) true fuel 52 cs0.toList = some (d0, p0) from h0).elim fun fuel hf => (RFnExactSameMsg.opa0 fuel).2 _ _ _ _ _ _ _ _ _ (Nat.le_refl _) hf
  obtain ⟨l0_0, l0_1⟩ := x0
  obtain ⟨w0_0, w0_1⟩ := w0
  obtain ⟨_, _, e0, ⟨A0_0, c0_0, rfl, hc0_0, hr0_0⟩, ⟨A0_1, c0_1, rfl, hc0_1, hr0_1⟩⟩ := K0
  obtain rfl : cs0 = #[.slice A0_0 l0_0.length c0_0, .slice A0_1 l0_1.length c0_1] := by cases cs0; simpa using e0
  obtain ⟨cs1, rfl, _⟩ := okWide_struct Try.underlying52 (hval 1 52 v1 rfl rfl)
  have k1 := h1
  have lt1 : ∀ x ∈ p1, x.block < W.heap.size := by obtain ⟨m, hm⟩ := k1; exact DataW.trod_lt m _ _ _ hm
  obtain ⟨x1, w1, K1⟩ := (show ∃ fuel, DataW.trod enc Try.prog W 0 (fun _ => true) true fuel 52 cs1.toList = some (d1, p1) from h1).elim fun fuel hf => (RFnExactSameMsg.opa1 fuel).2 _ _ _ _ _ _ _ _ _ (Nat.le_refl _) hf
  obtain ⟨l1_0, l1_1⟩ := x1
  obtain ⟨w1_0, w1_1⟩ := w1
  obtain ⟨_, _, e1, ⟨A1_0, c1_0, rfl, hc1_0, hr1_0⟩, ⟨A1_1, c1_1, rfl, hc1_1, hr1_1⟩⟩ := K1
  obtain rfl : cs1 = #[.slice A1_0 l1_0.length c1_0, .slice A1_1 l1_1.length c1_1] := by cases cs1; simpa using e1
  clear hA0 hval0 hsz0
  obtain ⟨k, hP⟩ := Pure.FnExactSameMsg l0_0 l0_1 l1_0 l1_1 w0_0 w0_1 w1_0 w1_1
  refine (PFnExactSameMsg.laws_FnExactSameMsg.calls k A0_0 c0_0 l0_0 A0_1 c0_1 l0_1 A1_0 c1_0 l1_0 A1_1 c1_1 l1_1 true W hr0_0 hc0_0 hr0_1 hc0_1 hr1_0 hc1_0 hr1_1 hc1_1 hP).mono ?_
  rintro e W' ⟨rfl, bel⟩
  exact ⟨_, rfl, _, _, _, [], _, [], hW', trodAll_mk1 (shut_bool Try.underlying4 _), (trodAll_cons_mk (Below.trod laidOut (by kernel_rfl) (of_decide_eq_true (by kernel_rfl)) k0 bel lt0) (trodAll_cons_mk (Below.trod laidOut (by kernel_rfl) (of_decide_eq_true (by kernel_rfl)) k1 bel lt1) trodAll_mk0)), rfl, bel.frame _, fun h => by cases h⟩
theorem over : Rows.fnExactSameMsgRow.holds Try.pinned (OpenSpec.ofChange Rows.fnExactSameMsgSpec) :=
  OpenClaim.holds_of_wide 8 Try.f8 rfl rfl rfl rfl rfl rfl rfl ⟨rfl, rfl, rfl, rfl, rfl⟩ rfl rfl rfl rfl rfl (by kernel_rfl) Try.func8 (by kernel_rfl)
    (of_decide_eq_true (by kernel_rfl)) (by unfold Func.isWrapper; first | (rw [if_pos (by decide +kernel)]; kernel_rfl) | (rw [if_neg (by decide +kernel)]; exact ⟨rfl, rfl⟩))
    (fun os started H enc _ => lifted os started H enc)
theorem proved : Rows.FnExactSameMsgSaid := over
#print axioms proved
end Go.Proofs.Ytnchbgiojdijbaa.fnExactSameMsg
namespace Go.Proofs.Ytnchbgiojdijbaa
/-- The row, under a short name, for the claim. -/
theorem fnExactSameMsg_holds : Rows.FnExactSameMsgSaid := fnExactSameMsg.proved
end Go.Proofs.Ytnchbgiojdijbaa
