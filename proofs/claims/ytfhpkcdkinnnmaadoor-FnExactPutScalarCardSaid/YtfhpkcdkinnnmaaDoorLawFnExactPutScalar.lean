/- The row of FnExactPutScalar: whatever kind and value come in, the law answers true; and its tied card. Condition: the two tables of the program read as its text lays them. -/
import Derived.Test.YtfhpkcdkinnnmaaDoorRows
import Derived.Test.YtfhpkcdkinnnmaaDoorTie
import Derived.Test.YtfhpkcdkinnnmaaDoorCards
import Derived.Test.YtfhpkcdkinnnmaaDoorF4
import Derived.Lib.LaidIn
import Derived.Lib.LaidU8T
import Derived.Below
import Derived.Carry
import Derived.WalkKit
import Derived.ChangeOld
import Derived.ProofKit
import Derived.LaidMore
import Derived.OpenShut
import Derived.ShutString
import Derived.Stop.Joined
import Derived.SevenTiedAt
namespace Ev
open Go Go.Proofs Go.RowKit Go.ChangeShapes Go.WideShapes Go.Deep
/-- Called with trees that are only read, over cells that hold what is given, a function that answers one value comes back with it, and what stood stands. -/
theorem Fn.plainG {P : Program} {G : List (Addr × Value)} {f : Nat} {args : List V} {x : Value} {W : World} {xs : List Value} (h : Fn P G f args [] (fun rs os => rs = [.sc x] ∧ os = [])) (hG : ∀ a v, (a, v) ∈ G → ∃ b o, a = ⟨b, o, none⟩ ∧ W.cell? ⟨b, o, none⟩ = some v) (hl : xs.length = args.length) (hx : ∀ (k : Nat) (v : V) (y : Value), args[k]? = some v → xs[k]? = some y → VR W (fun _ _ => True) noGh (stO (obsO 0 [])).len v y) :
    Calls P f xs.toArray W fun e W' => e = .returned x ∧ Below W.heap.size W W' := by
  refine (h.run W (fun _ _ => True) noGh (fun _ _ => none) xs hl hx (fun r p es d n hh => ?_) (fun b o hb => absurd rfl hb) (fun b o _ => rfl) (fun a v hm => by obtain ⟨b, o, h1, h2⟩ := hG a v hm; exact ⟨b, o, h1, h2, rfl⟩)).mono (fun e W' hh => ?_)
  · unfold St.at at hh
    have : (stO (obsO 0 [])).obj r = none := rfl
    rw [this] at hh; cases hh
  · obtain ⟨y, rs, obs', rfl, ⟨rfl, rfl⟩, ha⟩ := hh
    obtain ⟨g', pm', hA⟩ := ha 0 (Nat.le_refl _)
    have hv := hA.val
    have : (open3 0 [V.sc x]).1 = .sc x := rfl
    rw [this] at hv
    exact ⟨by rw [hv.sc_inv], hA.keep.os, hA.keep.tape, hA.keep.output, hA.keep.size, fun b hb => hA.keep.block b hb (fun _ => rfl)⟩
theorem agg_of {W : World} {ok : Nat → Nat → Prop} {g : Gh} {at_ : Nat → Path → Option Nat} {vs : List V} {cs : Array Value} (h : SRs W vs cs.toList) (hok : ∀ b o, ok b o) : VR W ok g at_ (.agg (vs.map shView)) (.agg cs) := by
  have := VR.agg (w := W) (ok := ok) (g := g) (at_ := at_) (vs.map shView) cs.toList (by rw [List.length_map]; exact h.1) (fun k v x hv hx => by
    rw [List.getElem?_map] at hv
    cases e : vs[k]? with
    | none => rw [e] at hv; cases hv
    | some u =>
      rw [e] at hv
      obtain rfl := Option.some.inj hv
      exact (shView_ok (h.2 k u x e hx)).mono (fun b o c _ hc => ⟨hok b o, hc⟩) (fun r p n hn => ⟨hn, rfl, rfl, rfl, rfl, rfl⟩))
  simpa using this
end Ev
namespace Go.Proofs.YtfhpkcdkinnnmaaDoor
open Go Go.Shelf Go.ChangeShapes Go.WideShapes Go.ChangeAt Go.RowKit Go.Lib
open Go.ChangeMaps (open_string shut_string)

theorem own : ownKnob Tryd.prog.godebug = none := by kernel_rfl
theorem laidOut : laidOutB Tryd.prog = true := by kernel_rfl
theorem firstSame : Rows.laid_unicode_utf8_first = Lib.firstData := by kernel_rfl
theorem acceptSame : (Rows.laid_unicode_utf8_acceptRanges : DataW Unit) = Lib.acceptData := by kernel_rfl

/-- A world that meets the condition: the settled one, the two variables holding what their initialisers lay. -/
noncomputable def laidWorld (os : Os) : World :=
  let w0 := World.holding Tryd.prog os ⟨#[], #[], []⟩
  let put (h : Array Obj) (g : Nat) (cs : Array Value) : Array Obj := h.modify g fun
    | .cells _ t frozen => .cells cs t frozen
    | o => o
  let h1 := put w0.heap 0 (Lib.firstTab.map fun z => Value.int .u8 z).toArray
  let h2 := put h1 1 ((List.range 16).flatMap fun i => [Value.int .u8 (Lib.accLo i), Value.int .u8 (Lib.accHi i)]).toArray
  { w0 with heap := h2 }
theorem laid_met (os : Os) (args : Array Value) : laidMet Tryd.prog Rows.fnExactPutScalarRow.laid ((laidWorld os).forCall (fun _ _ => 0) ⟨#[], args, []⟩).memory := by
  show laidMet Tryd.prog [("unicode/utf8.acceptRanges", Rows.laid_unicode_utf8_acceptRanges), ("unicode/utf8.first", Rows.laid_unicode_utf8_first)] _
  rw [firstSame, acceptSame]
  exact (LaidIn.of_run (l := [("unicode/utf8.acceptRanges", Lib.acceptData), ("unicode/utf8.first", Lib.firstData)]) [1, 0] 8 (by kernel_rfl) (by kernel_rfl) (by kernel_rfl) (by kernel_rfl)).met
theorem laid_metH (os : Os) (args : Array Value) : laidMetH Tryd.prog Rows.fnExactPutScalarRow.laid ((laidWorld os).forCall (fun _ _ => 0) ⟨#[], args, []⟩).memory := by
  rw [MakeChecks.laidMetH_plain _ _ _ (by kernel_rfl)]
  exact laid_met os args

set_option maxRecDepth 100000 in
set_option maxHeartbeats 2000000 in
theorem lifted (os : Os) (started : os.Started) (H : Type) (enc : TypeId × Value → H) :
    ReturnsInHanded {} Tryd.checked os 3 .any (fun w args => (Rows.fnExactPutScalarSpec.pre enc Tryd.prog Tryd.f3 [] false w args ∧ laidMetH Tryd.prog Rows.fnExactPutScalarRow.laid w) ∧ sizedMet enc Tryd.prog Tryd.f3 (OpenSpec.ofChange Rows.fnExactPutScalarSpec) false w args)
      (Rows.fnExactPutScalarSpec.post enc Tryd.prog Tryd.f3 false true false false) := by
  refine returnsInHanded_of_change_and (C := Tryd.checked) (X := fun w _ => laidMetH Tryd.prog Rows.fnExactPutScalarRow.laid w) (fun _ _ _ hh h => h.of_heap hh) own started (by kernel_rfl) Tryd.func3
    (ChangeSpec.witness_at (enc := enc) (C := Tryd.checked) (os := os) (X := fun w _ => laidMetH Tryd.prog Rows.fnExactPutScalarRow.laid w) false (laidWorld os) #[.int .i64 0, .agg #[.int .i64 0, .string ByteArray.empty, .slice none 0 0, .slice none 0 0]] 8 rfl (by kernel_rfl) (by kernel_rfl) (by kernel_rfl) (by kernel_rfl) (by kernel_rfl) (laid_metH os _)) ?_
  intro W base args ds gs before hval0 hW _ _ hL _
  have hval : ∀ (j : Nat) t v, Tryd.f3.params[j]? = some t → args[j]? = some v → Value.okWide Tryd.prog W .any base t v := hval0
  have hW' := hW
  obtain ⟨p, q, hA0, hV0, rfl, hfz, hnd⟩ := hW
  have hA : DataW.TrodAll enc Tryd.prog W 0 (fun _ => true) true Tryd.f3.params.toList args.toList ds p := hA0
  rw [Tryd.params3] at hA hval
  obtain ⟨v0, vs0, d0, ds0, p0, q0, hargs, rfl, rfl, h0, r0⟩ := trodAll_cons hA
  obtain ⟨v1, vs1, d1, ds1, p1, q1, rfl, rfl, rfl, h1, r1⟩ := trodAll_cons r0
  obtain ⟨rfl, rfl, rfl⟩ := trodAll_nil r1
  obtain rfl : args = #[v0, v1] := by cases args; simp_all
  obtain ⟨rfl, rfl⟩ := trodVars_none hV0
  obtain ⟨a0, rfl, rfl, rfl, w0⟩ := open_int Tryd.underlying3 (hval 0 3 v0 rfl rfl) h0
  obtain ⟨cs1, rfl, _⟩ := okWide_struct Tryd.underlying27 (hval 1 27 v1 rfl rfl)
  have k1 := h1
  have lt1 : ∀ x ∈ p1, x.block < W.heap.size := by obtain ⟨m, hm⟩ := k1; exact DataW.trod_lt m _ _ _ hm
  obtain ⟨x1, g1, _, s1⟩ := (show ∃ fuel, DataW.trod enc Tryd.prog W 0 (fun _ => true) true fuel 27 cs1.toList = some (d1, p1) from h1).elim fun fuel hf => (Ev.opVal fuel).2 _ _ _ _ _ _ _ _ _ (Nat.le_refl _) hf
  rw [MakeChecks.laidMetH_plain _ _ _ (by kernel_rfl)] at hL
  have hL' : laidMet Tryd.prog [("unicode/utf8.acceptRanges", Lib.acceptData), ("unicode/utf8.first", Lib.firstData)] W := by
    rw [← firstSame, ← acceptSame]; exact hL
  have htab : Lib.Utf8Tabs (Tryd.laysValid_ren.g 3) (Tryd.laysValid_ren.g 4) W :=
    utf8Tabs_of_readsT (U8Types.of196 Tryd.laysValid) ⟨by kernel_rfl, by kernel_rfl, by kernel_rfl, by kernel_rfl, by kernel_rfl, by kernel_rfl, by kernel_rfl⟩ (Lib.laidMet.reads hL' (.tail _ (.head _))) (Lib.laidMet.reads hL' (.head _))
  clear hA0 hV0 hval0
  have e1 : x1.acells = x1.cs.map Ev.shView := by rw [Ev.Val.cs_eq]; rfl
  refine (Ev.Fn.plainG (Ev.lawPutScalar Ev.utf8B a0 x1 g1 Ev.specUtf Ev.implUtf) (Ev.of_tabs htab) (xs := [.int .i64 a0, .agg cs1]) rfl (fun k v y hv hy => ?_)).mono ?_
  · match k with
    | 0 =>
      obtain rfl := Option.some.inj hv
      obtain rfl := Option.some.inj hy
      exact .sc _
    | 1 =>
      obtain rfl := Option.some.inj hv
      obtain rfl := Option.some.inj hy
      rw [e1]; exact Ev.agg_of s1 (fun _ _ => trivial)
    | k + 2 => simp at hv
  rintro e W' ⟨rfl, bel⟩
  exact ⟨_, rfl, _, _, _, [], _, [], hW', trodAll_mk1 (shut_bool Tryd.underlying4 _), (trodAll_cons_mk (shut_int Tryd.underlying3 w0) (trodAll_cons_mk (Below.trod laidOut (by kernel_rfl) (of_decide_eq_true (by kernel_rfl)) k1 bel lt1) trodAll_mk0)), rfl, bel.frame _, fun h => by cases h⟩

theorem row_holds : Rows.FnExactPutScalarSaid :=
  OpenClaim.holds_of_wide 3 Tryd.f3 rfl rfl rfl rfl rfl rfl rfl ⟨rfl, rfl, rfl, rfl, rfl⟩ rfl rfl rfl rfl rfl (by kernel_rfl) Tryd.func3 (by kernel_rfl)
    (of_decide_eq_true (by kernel_rfl)) (by unfold Func.isWrapper; first | (rw [if_pos (by decide +kernel)]; kernel_rfl) | (rw [if_neg (by decide +kernel)]; exact ⟨rfl, rfl⟩))
    (fun os started H enc _ => lifted os started H enc)

/-- THE TIED CARD. -/
theorem fnExactPutScalar_holds : Rows.FnExactPutScalarCardSaid :=
  Claim7.holds_tied_plain_at .later [] [.data, .pinned] true (true, "c05a9c6816458e1f3f244006d923428a81373b3b93466aa18adb946e2ecae5bd") false
    row_holds (fun _ h => by cases h) (by kernel_rfl) (fun _ h => by cases h) fnExactPutScalar_row_tie rfl ⟨rfl, rfl⟩ (by kernel_rfl) rfl
    (fun f fn hf hfn => by
      obtain rfl : f = 3 := Option.some.inj ((show Tryd.prog.funcNamed "loop.example/g00104/laws.FnExactPutScalar" = some 3 by kernel_rfl).symm.trans hf) |>.symm
      obtain rfl : fn = Tryd.f3 := (Option.some.inj (Tryd.func3.symm.trans hfn)).symm
      exact ⟨by kernel_rfl, fun j t ht => by
        rw [Tryd.params3] at ht
        rcases j with _ | _ | j
        · obtain rfl : t = 3 := by simpa using ht.symm
          exact (show Tryd.prog.wantsStandIn 3 = false by kernel_rfl)
        · obtain rfl : t = 27 := by simpa using ht.symm
          exact (show Tryd.prog.wantsStandIn 27 = false by kernel_rfl)
        · simp at ht⟩)
    (by kernel_rfl)
#print axioms fnExactPutScalar_holds
end Go.Proofs.YtfhpkcdkinnnmaaDoor
