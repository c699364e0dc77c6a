/- The row of FnExactPutTable: whatever IR comes in, the law answers true and its argument reads afterwards as before. No condition beside those that the given statement bears itself. -/
import Derived.Test.YtfhpkcdkinnnmaaF3
import Derived.Test.YtfhpkcdkinnnmaaF2
import Derived.Test.YtfhpkcdkinnnmaaRows
import Derived.WalkKit
import Derived.ProofKit
import Derived.OpenShut
import Derived.ShutString
import Derived.ChangeOld
import Derived.Below
import Derived.SizedLaws
import Derived.Carry
open Go Ev
open Go.Proofs
set_option maxRecDepth 100000
set_option maxHeartbeats 4000000
set_option linter.unusedVariables false
namespace Ev
theorem Opr.cns_w : ∀ (n : Nat) (l : List Opr), sizeOf l < n → Opr.cns l ≤ 8 * Opr.ws l
  | 0, l, h => absurd h (Nat.not_lt_zero _)
  | n + 1, [], _ => by rw [Opr.cns]; exact Nat.zero_le _
  | n + 1, ⟨num, kind, ref, rep, oneof, tag, quick, run, inl⟩ :: l, h => by
    have s : sizeOf (⟨num, kind, ref, rep, oneof, tag, quick, run, inl⟩ :: l : List Opr) = 1 + sizeOf (⟨num, kind, ref, rep, oneof, tag, quick, run, inl⟩ : Opr) + sizeOf l := rfl
    have s2 := Opr.mk.sizeOf_spec num kind ref rep oneof tag quick run inl
    have h1 := Opr.cns_w n l (by omega)
    have h2 := Opr.cns_w n inl (by omega)
    unfold Opr.ws at *
    rw [Opr.cns, Opr.cn, Opr.ss, Opr.w, List.length_cons]
    omega
theorem Modu.cns_w : ∀ (l : List Modu), Modu.cns l ≤ 8 * Modu.ws l
  | [] => by rw [Modu.cns]; exact Nat.zero_le _
  | ⟨ops, jumps, cached⟩ :: l => by
    have h1 := Modu.cns_w l
    have h2 := Opr.cns_w _ ops (Nat.lt_succ_self _)
    unfold Modu.ws at *
    rw [Modu.cns, Modu.cn, Modu.ss, Modu.w, List.length_cons]
    omega
theorem markIr_ok (l : List Modu) (k : Int) (h0 : 0 ≤ k) (h1 : k + ((Modu.cns l : Nat) : Int) ≤ 4611686018427387904) : Fn Try.prog [] 24 [.agg [.hdr 0 [(0, 0)]], .sc (.int .i64 k)] [⟨[[.own true 3 (Modu.css l)]], true, 1, true⟩] (ret [.sc (.int .i64 (k + ((Modu.cns l : Nat) : Int)))] [⟨[[.own true 3 (Modu.css (Modu.mks l k))]], true, 1, true⟩]) := by
  have H1 := markModuS_ok l k h0 h1
  refine fn_of Try.func24 (by kernel_rfl) ?_
  conv => whnf
  refine Fn.use (H1) ?_
  conv => whnf
  first | refine ⟨trivial, ?_⟩ | refine ⟨⟨rfl, clr_of rfl⟩, ?_⟩
  conv => whnf
  exact ⟨rfl, rfl⟩
theorem lawPutTable (x : Ir) (hx : x.ok) : Fn Try.prog [] 6 [.agg x.acells] [] (ret [.sc (.bool true)] []) := by
  have HZ := szIr_all x hx 1048576 (by omega) (by omega)
  have HT := fun h => toIr_all x h
  have HE := fun h => eqIr_all x h x
  have HS := fun h => specPutTable x.mods (small_of h)
  have HI := fun h => implPutTable x.mods (small_of h)
  obtain ⟨mods⟩ := x
  refine fn_of Try.func6 (by kernel_rfl) ?_
  conv => whnf
  refine Fn.use (HZ) ?_
  conv => whnf
  first | refine ⟨trivial, ?_⟩ | refine ⟨⟨rfl, clr_of rfl⟩, ?_⟩
  conv => whnf
  generalize hd : dec 1048576 _ = d
  refine ifP_of (fun h => ?_) (fun h => ?_)
  · conv => whnf
    exact ⟨rfl, rfl⟩
  obtain ⟨h1, _⟩ := dec_ge hd (of_decide_eq_false h)
  have hw : Ir.w ⟨mods⟩ ≤ 1048576 := by omega
  have HT := HT hw
  have HE := HE hw
  have HS := HS hw
  have HI := HI hw
  have hR : (tabB mods).length ≤ 50000 := by
    unfold tabB
    split
    · rename_i h
      have := body_len h
      rw [List.length_append, fixB_len]; omega
    · exact Nat.zero_le _
  have hcn : Modu.cns mods ≤ 8388608 := by
    have := Modu.cns_w mods
    have : Modu.ws mods ≤ 1048576 := hw
    omega
  generalize tabB mods = R at *
  have HB := eqByteS_ok R R (by omega)
  rw [eqb_yes rfl] at HB
  rw [eqb_yes rfl] at HE
  have HM := markIr_ok mods 1 (by omega) (by omega)
  have HN := markByteS_ok R 1 (by omega) (by omega)
  have HH := heldByteS_ok R 1 (by omega) (by omega)
  have hpos : decide (1 + ((R.length : Nat) : Int) < 0) = false := decide_eq_false (by omega)
  have hpos2 : decide (1 + ((Modu.cns mods : Nat) : Int) < 0) = false := decide_eq_false (by omega)
  generalize 1 + ((R.length : Nat) : Int) = K at *
  generalize 1 + ((Modu.cns mods : Nat) : Int) = K2 at *
  clear hR hcn h hd h1
  conv => whnf
  refine Fn.use (HT) ?_
  conv => whnf
  first | refine ⟨trivial, ?_⟩ | refine ⟨⟨rfl, clr_of rfl⟩, ?_⟩
  conv => whnf
  refine Fn.use HS ⟨⟨rfl, clr_bytes⟩, ?_⟩
  conv => whnf
  refine Fn.use (HT) ?_
  conv => whnf
  first | refine ⟨trivial, ?_⟩ | refine ⟨⟨rfl, clr_of rfl⟩, ?_⟩
  conv => whnf
  refine Fn.use HI ⟨⟨rfl, clr_bytes⟩, ?_⟩
  as_aux_lemma =>
    conv => whnf
    refine Fn.use (HB) ?_
    conv => whnf
    first | refine ⟨trivial, ?_⟩ | refine ⟨⟨rfl, clr_of rfl⟩, ?_⟩
    conv => whnf
    refine Fn.use (HT) ?_
    conv => whnf
    first | refine ⟨trivial, ?_⟩ | refine ⟨⟨rfl, clr_of rfl⟩, ?_⟩
    conv => whnf
    refine Fn.use (HE) ?_
    conv => whnf
    first | refine ⟨trivial, ?_⟩ | refine ⟨⟨rfl, clr_of rfl⟩, ?_⟩
    conv => whnf
    refine Fn.use HM ⟨trivial, ?_⟩
    as_aux_lemma =>
      conv => whnf
      refine ifP_no hpos2 ?_
      conv => whnf
      refine Fn.use (HB) ?_
      conv => whnf
      first | refine ⟨trivial, ?_⟩ | refine ⟨⟨rfl, clr_of rfl⟩, ?_⟩
      conv => whnf
      refine Fn.use HN ⟨trivial, ?_⟩
      as_aux_lemma =>
        conv => whnf
        refine Fn.use HH ⟨⟨rfl, clr_of rfl⟩, ?_⟩
        as_aux_lemma =>
          conv => whnf
          refine ifP_no hpos ?_
          conv => whnf
          refine ifP_no (neI _) ?_
          conv => whnf
          refine Fn.use (HT) ?_
          conv => whnf
          first | refine ⟨trivial, ?_⟩ | refine ⟨⟨rfl, clr_of rfl⟩, ?_⟩
          conv => whnf
          refine Fn.use HI ⟨⟨rfl, clr_bytes⟩, ?_⟩
          as_aux_lemma =>
            conv => whnf
            refine Fn.use (HB) ?_
            conv => whnf
            first | refine ⟨trivial, ?_⟩ | refine ⟨⟨rfl, clr_of rfl⟩, ?_⟩
            conv => whnf
            refine Fn.use HH ⟨⟨rfl, clr_of rfl⟩, ?_⟩
            as_aux_lemma =>
              conv => whnf
              refine ifP_no hpos ?_
              conv => whnf
              refine ifP_no (neI _) ?_
              conv => whnf
              exact ⟨rfl, rfl⟩
end Ev
namespace Ev
open Go Go.RowKit
theorem agg_of {W : World} {ok : Nat → Nat → Prop} {g : Gh} {at_ : Nat → Path → Option Nat} {vs : List V} {cs : Array Value} (h : SRs W vs cs.toList) (hok : ∀ b o, ok b o) : VR W ok g at_ (.agg (vs.map shView)) (.agg cs) := by
  have := VR.agg (w := W) (ok := ok) (g := g) (at_ := at_) (vs.map shView) cs.toList (by rw [List.length_map]; exact h.1) (fun k v x hv hx => by
    rw [List.getElem?_map] at hv
    cases e : vs[k]? with
    | none => rw [e] at hv; cases hv
    | some u =>
      rw [e] at hv
      obtain rfl := Option.some.inj hv
      exact (shView_ok (h.2 k u x e hx)).mono (fun b o c _ hc => ⟨hok b o, hc⟩) (fun r p n hn => ⟨hn, rfl, rfl, rfl, rfl, rfl⟩))
  simpa using this
/-- Called with trees that are only read, a function that answers one value comes back with it, and what stood stands. -/
theorem Fn.plain {P : Program} {f : Nat} {args : List V} {x : Value} {W : World} {xs : List Value} (h : Fn P [] f args [] (fun rs os => rs = [.sc x] ∧ os = [])) (hl : xs.length = args.length) (hx : ∀ (k : Nat) (v : V) (y : Value), args[k]? = some v → xs[k]? = some y → VR W (fun _ _ => True) noGh (stO (obsO 0 [])).len v y) :
    Calls P f xs.toArray W fun e W' => e = .returned x ∧ Below W.heap.size W W' := by
  refine (h.run W (fun _ _ => True) noGh (fun _ _ => none) xs hl hx (fun r p es d n hh => ?_) (fun b o hb => absurd rfl hb) (fun b o _ => rfl) (fun a v hm => by cases hm)).mono (fun e W' hh => ?_)
  · unfold St.at at hh
    have : (stO (obsO 0 [])).obj r = none := rfl
    rw [this] at hh; cases hh
  · obtain ⟨y, rs, obs', rfl, ⟨rfl, rfl⟩, ha⟩ := hh
    obtain ⟨g', pm', hA⟩ := ha 0 (Nat.le_refl _)
    have hv := hA.val
    have : (open3 0 [V.sc x]).1 = .sc x := rfl
    rw [this] at hv
    exact ⟨by rw [hv.sc_inv], hA.keep.os, hA.keep.tape, hA.keep.output, hA.keep.size, fun b hb => hA.keep.block b hb (fun _ => rfl)⟩
end Ev
namespace Go.Proofs.Ytfhpkcdkinnnmaa.fnExactPutTable
open Go.ChangeShapes Go.WideShapes Go.ChangeAt Go.RowKit
set_option linter.unusedVariables false
theorem own : ownKnob Try.prog.godebug = none := by kernel_rfl
theorem laidOut : laidOutB Try.prog = true := by kernel_rfl
set_option maxRecDepth 100000 in
theorem lifted (os : Os) (started : os.Started) (H : Type) (enc : TypeId × Value → H) :
    ReturnsInHanded {} Try.checked os 6 .any (Rows.fnExactPutTableSpec.pre6 enc Try.prog Try.f6 Rows.fnExactPutTableRow.domain false) (Rows.fnExactPutTableSpec.post enc Try.prog Try.f6 false true false false) := by
  refine returnsInHanded_of_change_sized (C := Try.checked) own started (by kernel_rfl) Try.func6
    (ChangeSpec.witness6 (enc := enc) (C := Try.checked) false ⟨#[], #[.agg #[.slice none 0 0]], []⟩ 8 (by kernel_rfl) (by kernel_rfl) (by kernel_rfl) (by kernel_rfl)) ?_
  intro W base args ds gs before hval0 hW hcnd hsz0 _
  have hval : ∀ (j : Nat) t v, Try.f6.params[j]? = some t → args[j]? = some v → Value.okWide Try.prog W .any base t v := hval0
  have hW' := hW
  obtain ⟨p, q, hA0, hV, rfl, hfz, hnd⟩ := hW
  have hA : DataW.TrodAll enc Try.prog W 0 (fun _ => true) true Try.f6.params.toList args.toList ds p := hA0
  rw [Try.params6] at hA hval
  obtain ⟨v0, vs0, d0, ds0, p0, q0, hargs, rfl, rfl, h0, r0⟩ := trodAll_cons hA
  obtain ⟨rfl, rfl, rfl⟩ := trodAll_nil r0
  obtain rfl : args = #[v0] := by cases args; simp_all
  obtain ⟨rfl, rfl⟩ := trodVars_none hV
  obtain ⟨cs0, rfl, _⟩ := okWide_struct Try.underlying36 (hval 0 36 v0 rfl rfl)
  have k0 := h0
  have lt0 : ∀ x ∈ p0, x.block < W.heap.size := by obtain ⟨m, hm⟩ := k0; exact DataW.trod_lt m _ _ _ hm
  obtain ⟨x0, g0, _, s0⟩ := (show ∃ fuel, DataW.trod enc Try.prog W 0 (fun _ => true) true fuel 36 cs0.toList = some (d0, p0) from h0).elim fun fuel hf => (Ev.opIr fuel).2 _ _ _ _ _ _ _ _ _ (Nat.le_refl _) hf
  clear hA0 hval0 hsz0
  have e0 : x0.acells = x0.cs.map Ev.shView := by cases x0; rfl
  refine (Ev.Fn.plain (Ev.lawPutTable x0 g0) (xs := [.agg cs0]) rfl (fun k v y hv hy => ?_)).mono ?_
  · match k with
    | 0 =>
      obtain rfl := Option.some.inj hv
      obtain rfl := Option.some.inj hy
      rw [e0]; exact Ev.agg_of s0 (fun _ _ => trivial)
    | k + 1 => simp at hv
  rintro e W' ⟨rfl, bel⟩
  exact ⟨_, rfl, _, _, _, [], _, [], hW', trodAll_mk1 (shut_bool Try.underlying4 _), (trodAll_cons_mk (Below.trod laidOut (by kernel_rfl) (of_decide_eq_true (by kernel_rfl)) k0 bel lt0) trodAll_mk0), rfl, bel.frame _, fun h => by cases h⟩
theorem over : Rows.fnExactPutTableRow.holds Try.pinned (OpenSpec.ofChange Rows.fnExactPutTableSpec) :=
  OpenClaim.holds_of_wide 6 Try.f6 rfl rfl rfl rfl rfl rfl rfl ⟨rfl, rfl, rfl, rfl, rfl⟩ rfl rfl rfl rfl rfl (by kernel_rfl) Try.func6 (by kernel_rfl)
    (of_decide_eq_true (by kernel_rfl)) (by unfold Func.isWrapper; first | (rw [if_pos (by decide +kernel)]; kernel_rfl) | (rw [if_neg (by decide +kernel)]; exact ⟨rfl, rfl⟩))
    (fun os started H enc _ => lifted os started H enc)
theorem proved : Rows.FnExactPutTableSaid := over
#print axioms proved
end Go.Proofs.Ytfhpkcdkinnnmaa.fnExactPutTable
namespace Go.Proofs.Ytfhpkcdkinnnmaa
/-- The row, under a short name, for the claim. -/
theorem fnExactPutTable_holds : Rows.FnExactPutTableSaid := fnExactPutTable.proved
end Go.Proofs.Ytfhpkcdkinnnmaa
