/- The row of FnExactMarks: whatever IR comes in, the law answers true and its argument reads afterwards as before. No condition beside those that the given statement bears itself. -/
import Derived.Test.YtfhpkcdkinnnmaaF3
import Derived.Test.YtfhpkcdkinnnmaaRows
import Derived.WalkKit
import Derived.ProofKit
import Derived.OpenShut
import Derived.ShutString
import Derived.ChangeOld
import Derived.Below
import Derived.SizedLaws
import Derived.Carry
namespace Ev
open Go Go.RowKit
theorem agg_of {W : World} {ok : Nat → Nat → Prop} {g : Gh} {at_ : Nat → Path → Option Nat} {vs : List V} {cs : Array Value} (h : SRs W vs cs.toList) (hok : ∀ b o, ok b o) : VR W ok g at_ (.agg (vs.map shView)) (.agg cs) := by
  have := VR.agg (w := W) (ok := ok) (g := g) (at_ := at_) (vs.map shView) cs.toList (by rw [List.length_map]; exact h.1) (fun k v x hv hx => by
    rw [List.getElem?_map] at hv
    cases e : vs[k]? with
    | none => rw [e] at hv; cases hv
    | some u =>
      rw [e] at hv
      obtain rfl := Option.some.inj hv
      exact (shView_ok (h.2 k u x e hx)).mono (fun b o c _ hc => ⟨hok b o, hc⟩) (fun r p n hn => ⟨hn, rfl, rfl, rfl, rfl, rfl⟩))
  simpa using this
/-- Called with trees that are only read, a function that answers one value comes back with it, and what stood stands. -/
theorem Fn.plain {P : Program} {f : Nat} {args : List V} {x : Value} {W : World} {xs : List Value} (h : Fn P [] f args [] (fun rs os => rs = [.sc x] ∧ os = [])) (hl : xs.length = args.length) (hx : ∀ (k : Nat) (v : V) (y : Value), args[k]? = some v → xs[k]? = some y → VR W (fun _ _ => True) noGh (stO (obsO 0 [])).len v y) :
    Calls P f xs.toArray W fun e W' => e = .returned x ∧ Below W.heap.size W W' := by
  refine (h.run W (fun _ _ => True) noGh (fun _ _ => none) xs hl hx (fun r p es d n hh => ?_) (fun b o hb => absurd rfl hb) (fun b o _ => rfl) (fun a v hm => by cases hm)).mono (fun e W' hh => ?_)
  · unfold St.at at hh
    have : (stO (obsO 0 [])).obj r = none := rfl
    rw [this] at hh; cases hh
  · obtain ⟨y, rs, obs', rfl, ⟨rfl, rfl⟩, ha⟩ := hh
    obtain ⟨g', pm', hA⟩ := ha 0 (Nat.le_refl _)
    have hv := hA.val
    have : (open3 0 [V.sc x]).1 = .sc x := rfl
    rw [this] at hv
    exact ⟨by rw [hv.sc_inv], hA.keep.os, hA.keep.tape, hA.keep.output, hA.keep.size, fun b hb => hA.keep.block b hb (fun _ => rfl)⟩
end Ev
namespace Go.Proofs.Ytfhpkcdkinnnmaa.fnExactMarks
open Go.ChangeShapes Go.WideShapes Go.ChangeAt Go.RowKit
set_option linter.unusedVariables false
theorem own : ownKnob Try.prog.godebug = none := by kernel_rfl
theorem laidOut : laidOutB Try.prog = true := by kernel_rfl
set_option maxRecDepth 100000 in
theorem lifted (os : Os) (started : os.Started) (H : Type) (enc : TypeId × Value → H) :
    ReturnsInHanded {} Try.checked os 5 .any (Rows.fnExactMarksSpec.pre6 enc Try.prog Try.f5 Rows.fnExactMarksRow.domain false) (Rows.fnExactMarksSpec.post enc Try.prog Try.f5 false true false false) := by
  refine returnsInHanded_of_change_sized (C := Try.checked) own started (by kernel_rfl) Try.func5
    (ChangeSpec.witness6 (enc := enc) (C := Try.checked) false ⟨#[], #[.agg #[.slice none 0 0]], []⟩ 8 (by kernel_rfl) (by kernel_rfl) (by kernel_rfl) (by kernel_rfl)) ?_
  intro W base args ds gs before hval0 hW hcnd hsz0 _
  have hval : ∀ (j : Nat) t v, Try.f5.params[j]? = some t → args[j]? = some v → Value.okWide Try.prog W .any base t v := hval0
  have hW' := hW
  obtain ⟨p, q, hA0, hV, rfl, hfz, hnd⟩ := hW
  have hA : DataW.TrodAll enc Try.prog W 0 (fun _ => true) true Try.f5.params.toList args.toList ds p := hA0
  rw [Try.params5] at hA hval
  obtain ⟨v0, vs0, d0, ds0, p0, q0, hargs, rfl, rfl, h0, r0⟩ := trodAll_cons hA
  obtain ⟨rfl, rfl, rfl⟩ := trodAll_nil r0
  obtain rfl : args = #[v0] := by cases args; simp_all
  obtain ⟨rfl, rfl⟩ := trodVars_none hV
  obtain ⟨cs0, rfl, _⟩ := okWide_struct Try.underlying36 (hval 0 36 v0 rfl rfl)
  have k0 := h0
  have lt0 : ∀ x ∈ p0, x.block < W.heap.size := by obtain ⟨m, hm⟩ := k0; exact DataW.trod_lt m _ _ _ hm
  obtain ⟨x0, g0, _, s0⟩ := (show ∃ fuel, DataW.trod enc Try.prog W 0 (fun _ => true) true fuel 36 cs0.toList = some (d0, p0) from h0).elim fun fuel hf => (Ev.opIr fuel).2 _ _ _ _ _ _ _ _ _ (Nat.le_refl _) hf
  clear hA0 hval0 hsz0
  have e0 : x0.acells = x0.cs.map Ev.shView := by cases x0; rfl
  refine (Ev.Fn.plain (Ev.lawMarks x0 g0) (xs := [.agg cs0]) rfl (fun k v y hv hy => ?_)).mono ?_
  · match k with
    | 0 =>
      obtain rfl := Option.some.inj hv
      obtain rfl := Option.some.inj hy
      rw [e0]; exact Ev.agg_of s0 (fun _ _ => trivial)
    | k + 1 => simp at hv
  rintro e W' ⟨rfl, bel⟩
  exact ⟨_, rfl, _, _, _, [], _, [], hW', trodAll_mk1 (shut_bool Try.underlying4 _), (trodAll_cons_mk (Below.trod laidOut (by kernel_rfl) (of_decide_eq_true (by kernel_rfl)) k0 bel lt0) trodAll_mk0), rfl, bel.frame _, fun h => by cases h⟩
theorem over : Rows.fnExactMarksRow.holds Try.pinned (OpenSpec.ofChange Rows.fnExactMarksSpec) :=
  OpenClaim.holds_of_wide 5 Try.f5 rfl rfl rfl rfl rfl rfl rfl ⟨rfl, rfl, rfl, rfl, rfl⟩ rfl rfl rfl rfl rfl (by kernel_rfl) Try.func5 (by kernel_rfl)
    (of_decide_eq_true (by kernel_rfl)) (by unfold Func.isWrapper; first | (rw [if_pos (by decide +kernel)]; kernel_rfl) | (rw [if_neg (by decide +kernel)]; exact ⟨rfl, rfl⟩))
    (fun os started H enc _ => lifted os started H enc)
theorem proved : Rows.FnExactMarksSaid := over
#print axioms proved
end Go.Proofs.Ytfhpkcdkinnnmaa.fnExactMarks
namespace Go.Proofs.Ytfhpkcdkinnnmaa
/-- The row, under a short name, for the claim. -/
theorem fnExactMarks_holds : Rows.FnExactMarksSaid := fnExactMarks.proved
end Go.Proofs.Ytfhpkcdkinnnmaa
