/- The row of FnExactParse: whatever text comes in, the law answers true. No condition beside those that the given statement bears itself. -/
import Derived.Test.YtfhpkcdkinnnmaaF5
import Derived.Test.YtfhpkcdkinnnmaaRows
import Derived.WalkKit
import Derived.ProofKit
import Derived.OpenShut
import Derived.ShutString
import Derived.ChangeOld
import Derived.Below
import Derived.SizedLaws
namespace Ev
open Go Go.RowKit
/-- Called with trees that are only read, a function that answers one value comes back with it, and what stood stands. -/
theorem Fn.plain {P : Program} {f : Nat} {args : List V} {x : Value} {W : World} {xs : List Value} (h : Fn P [] f args [] (fun rs os => rs = [.sc x] ∧ os = [])) (hl : xs.length = args.length) (hx : ∀ (k : Nat) (v : V) (y : Value), args[k]? = some v → xs[k]? = some y → VR W (fun _ _ => True) noGh (stO (obsO 0 [])).len v y) :
    Calls P f xs.toArray W fun e W' => e = .returned x ∧ Below W.heap.size W W' := by
  refine (h.run W (fun _ _ => True) noGh (fun _ _ => none) xs hl hx (fun r p es d n hh => ?_) (fun b o hb => absurd rfl hb) (fun b o _ => rfl) (fun a v hm => by cases hm)).mono (fun e W' hh => ?_)
  · unfold St.at at hh
    have : (stO (obsO 0 [])).obj r = none := rfl
    rw [this] at hh; cases hh
  · obtain ⟨y, rs, obs', rfl, ⟨rfl, rfl⟩, ha⟩ := hh
    obtain ⟨g', pm', hA⟩ := ha 0 (Nat.le_refl _)
    have hv := hA.val
    have : (open3 0 [V.sc x]).1 = .sc x := rfl
    rw [this] at hv
    exact ⟨by rw [hv.sc_inv], hA.keep.os, hA.keep.tape, hA.keep.output, hA.keep.size, fun b hb => hA.keep.block b hb (fun _ => rfl)⟩
end Ev
namespace Go.Proofs.Ytfhpkcdkinnnmaa.fnExactParse
open Go.ChangeShapes Go.WideShapes Go.ChangeAt Go.RowKit
open Go.ChangeMaps (open_string shut_string)
set_option linter.unusedVariables false
theorem own : ownKnob Try.prog.godebug = none := by kernel_rfl
set_option maxRecDepth 100000 in
theorem lifted (os : Os) (started : os.Started) (H : Type) (enc : TypeId × Value → H) :
    ReturnsInHanded {} Try.checked os 7 .any (Rows.fnExactParseSpec.pre6 enc Try.prog Try.f7 Rows.fnExactParseRow.domain false) (Rows.fnExactParseSpec.post enc Try.prog Try.f7 false true false false) := by
  refine returnsInHanded_of_change_sized (C := Try.checked) own started (by kernel_rfl) Try.func7
    (ChangeSpec.witness6 (enc := enc) (C := Try.checked) false ⟨#[], #[.string ByteArray.empty], []⟩ 8 (by kernel_rfl) (by kernel_rfl) (by kernel_rfl) (by kernel_rfl)) ?_
  intro W base args ds gs before hval0 hW hcnd hsz0 _
  have hsz : (DataW.weightsEach Try.prog (Try.f7.params.toList ++ Rows.fnExactParseSpec.plain.varTypes Try.prog) (ds ++ gs)).all (· ≤ reachBytes) = true := hsz0
  have hval : ∀ (j : Nat) t v, Try.f7.params[j]? = some t → args[j]? = some v → Value.okWide Try.prog W .any base t v := hval0
  have hW' := hW
  obtain ⟨p, q, hA0, hV, rfl, hfz, hnd⟩ := hW
  have hA : DataW.TrodAll enc Try.prog W 0 (fun _ => true) true Try.f7.params.toList args.toList ds p := hA0
  rw [Try.params7] at hA hval hsz
  obtain ⟨v0, vs0, d0, ds0, p0, q0, hargs, rfl, rfl, h0, r0⟩ := trodAll_cons hA
  obtain ⟨rfl, rfl, rfl⟩ := trodAll_nil r0
  obtain rfl : args = #[v0] := by cases args; simp_all
  obtain ⟨rfl, rfl⟩ := trodVars_none hV
  obtain ⟨a0, rfl, rfl, rfl, y0⟩ := open_string Try.underlying9 (hval 0 9 v0 rfl rfl) h0
  have w0 : a0.size ≤ 140737488351232 := by
    have z := sized_string hsz (j := 0) (t := 9) rfl rfl
    rw [Array.length_toList] at z
    exact z
  clear hA0 hval0 hsz0 hsz
  refine (Ev.Fn.plain (Ev.lawParse a0) (xs := [.string a0]) rfl (fun k v y hv hy => ?_)).mono ?_
  · match k with
    | 0 =>
      obtain rfl := Option.some.inj hv
      obtain rfl := Option.some.inj hy
      exact .sc _
    | k + 1 => simp at hv
  rintro e W' ⟨rfl, bel⟩
  exact ⟨_, rfl, _, _, _, [], _, [], hW', trodAll_mk1 (shut_bool Try.underlying4 _), (trodAll_cons_mk (shut_string Try.underlying9 y0) trodAll_mk0), rfl, bel.frame _, fun h => by cases h⟩
theorem over : Rows.fnExactParseRow.holds Try.pinned (OpenSpec.ofChange Rows.fnExactParseSpec) :=
  OpenClaim.holds_of_wide 7 Try.f7 rfl rfl rfl rfl rfl rfl rfl ⟨rfl, rfl, rfl, rfl, rfl⟩ rfl rfl rfl rfl rfl (by kernel_rfl) Try.func7 (by kernel_rfl)
    (of_decide_eq_true (by kernel_rfl)) (by unfold Func.isWrapper; first | (rw [if_pos (by decide +kernel)]; kernel_rfl) | (rw [if_neg (by decide +kernel)]; exact ⟨rfl, rfl⟩))
    (fun os started H enc _ => lifted os started H enc)
theorem proved : Rows.FnExactParseSaid := over
#print axioms proved
end Go.Proofs.Ytfhpkcdkinnnmaa.fnExactParse
namespace Go.Proofs.Ytfhpkcdkinnnmaa
/-- The row, under a short name, for the claim. -/
theorem fnExactParse_holds : Rows.FnExactParseSaid := fnExactParse.proved
end Go.Proofs.Ytfhpkcdkinnnmaa
