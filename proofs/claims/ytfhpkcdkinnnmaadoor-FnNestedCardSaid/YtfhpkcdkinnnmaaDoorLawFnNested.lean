/- The row of FnNested: whatever bytes come in, the law answers true; and its tied card. Condition: the two tables of the program read as its text lays them. -/
import Derived.Test.YtfhpkcdkinnnmaaDoorRows
import Derived.Test.YtfhpkcdkinnnmaaDoorTie
import Derived.Test.YtfhpkcdkinnnmaaDoorCards
import Derived.Test.YtfhpkcdkinnnmaaDoorF5
import Derived.Lib.LaidIn
import Derived.Lib.LaidU8
import Derived.Below
import Derived.Carry
import Derived.WalkKit
import Derived.ChangeOld
import Derived.ProofKit
import Derived.LaidMore
import Derived.OpenShut
import Derived.ShutString
import Derived.Stop.Joined
import Derived.SevenTiedAt
namespace Ev
open Go Go.Proofs Go.RowKit Go.ChangeShapes Go.WideShapes Go.Deep
/-- Called with trees that are only read, a function that answers one value comes back with it, and what stood stands. -/
theorem Fn.plain {P : Program} {f : Nat} {args : List V} {x : Value} {W : World} {xs : List Value} (h : Fn P [] f args [] (fun rs os => rs = [.sc x] ∧ os = [])) (hl : xs.length = args.length) (hx : ∀ (k : Nat) (v : V) (y : Value), args[k]? = some v → xs[k]? = some y → VR W (fun _ _ => True) noGh (stO (obsO 0 [])).len v y) :
    Calls P f xs.toArray W fun e W' => e = .returned x ∧ Below W.heap.size W W' := by
  refine (h.run W (fun _ _ => True) noGh (fun _ _ => none) xs hl hx (fun r p es d n hh => ?_) (fun b o hb => absurd rfl hb) (fun b o _ => rfl) (fun a v hm => by cases hm)).mono (fun e W' hh => ?_)
  · unfold St.at at hh
    have : (stO (obsO 0 [])).obj r = none := rfl
    rw [this] at hh; cases hh
  · obtain ⟨y, rs, obs', rfl, ⟨rfl, rfl⟩, ha⟩ := hh
    obtain ⟨g', pm', hA⟩ := ha 0 (Nat.le_refl _)
    have hv := hA.val
    have : (open3 0 [V.sc x]).1 = .sc x := rfl
    rw [this] at hv
    exact ⟨by rw [hv.sc_inv], hA.keep.os, hA.keep.tape, hA.keep.output, hA.keep.size, fun b hb => hA.keep.block b hb (fun _ => rfl)⟩
theorem wf_byte {n : Int} (h : (Lit.int .u8 n).wf = true) : 0 ≤ n ∧ n < 256 := by
  unfold Lit.wf at h
  simp at h
  have h1 : IntKind.u8.min = 0 := rfl
  have h2 : IntKind.u8.max = 255 := rfl
  omega
theorem opBytes (N : Nat) : OpV Tryd.prog N 23 1 (fun l => [.sl 1 (byteC l)]) Bytes :=
  opv_as (fun y => y) (fun y hy => fun b hb => wf_byte (hy.2 b hb)) (fun y => rfl) (opv_slice Tryd.underlying23 (by kernel_rfl) (by decide) (fun M2 hM2 => opv_int Tryd.underlying5 (by kernel_rfl)))
end Ev
namespace Go.Proofs.YtfhpkcdkinnnmaaDoor
open Go Go.Shelf Go.ChangeShapes Go.WideShapes Go.ChangeAt Go.RowKit Go.Lib
open Go.ChangeMaps (open_string shut_string)

theorem own : ownKnob Tryd.prog.godebug = none := by kernel_rfl
theorem laidOut : laidOutB Tryd.prog = true := by kernel_rfl
theorem firstSame : Rows.laid_unicode_utf8_first = Lib.firstData := by kernel_rfl
theorem acceptSame : (Rows.laid_unicode_utf8_acceptRanges : DataW Unit) = Lib.acceptData := by kernel_rfl

/-- A world that meets the condition: the settled one, the two variables holding what their initialisers lay. -/
noncomputable def laidWorld (os : Os) : World :=
  let w0 := World.holding Tryd.prog os ⟨#[], #[], []⟩
  let put (h : Array Obj) (g : Nat) (cs : Array Value) : Array Obj := h.modify g fun
    | .cells _ t frozen => .cells cs t frozen
    | o => o
  let h1 := put w0.heap 0 (Lib.firstTab.map fun z => Value.int .u8 z).toArray
  let h2 := put h1 1 ((List.range 16).flatMap fun i => [Value.int .u8 (Lib.accLo i), Value.int .u8 (Lib.accHi i)]).toArray
  { w0 with heap := h2 }
theorem laid_met (os : Os) (args : Array Value) : laidMet Tryd.prog Rows.fnNestedRow.laid ((laidWorld os).forCall (fun _ _ => 0) ⟨#[], args, []⟩).memory := by
  show laidMet Tryd.prog [("unicode/utf8.acceptRanges", Rows.laid_unicode_utf8_acceptRanges), ("unicode/utf8.first", Rows.laid_unicode_utf8_first)] _
  rw [firstSame, acceptSame]
  exact (LaidIn.of_run (l := [("unicode/utf8.acceptRanges", Lib.acceptData), ("unicode/utf8.first", Lib.firstData)]) [1, 0] 8 (by kernel_rfl) (by kernel_rfl) (by kernel_rfl) (by kernel_rfl)).met
theorem laid_metH (os : Os) (args : Array Value) : laidMetH Tryd.prog Rows.fnNestedRow.laid ((laidWorld os).forCall (fun _ _ => 0) ⟨#[], args, []⟩).memory := by
  rw [MakeChecks.laidMetH_plain _ _ _ (by kernel_rfl)]
  exact laid_met os args

set_option maxRecDepth 100000 in
set_option maxHeartbeats 2000000 in
theorem lifted (os : Os) (started : os.Started) (H : Type) (enc : TypeId × Value → H) :
    ReturnsInHanded {} Tryd.checked os 4 .any (fun w args => (Rows.fnNestedSpec.pre enc Tryd.prog Tryd.f4 [] false w args ∧ laidMetH Tryd.prog Rows.fnNestedRow.laid w) ∧ sizedMet enc Tryd.prog Tryd.f4 (OpenSpec.ofChange Rows.fnNestedSpec) false w args)
      (Rows.fnNestedSpec.post enc Tryd.prog Tryd.f4 false true false false) := by
  refine returnsInHanded_of_change_and (C := Tryd.checked) (X := fun w _ => laidMetH Tryd.prog Rows.fnNestedRow.laid w) (fun _ _ _ hh h => h.of_heap hh) own started (by kernel_rfl) Tryd.func4
    (ChangeSpec.witness_at (enc := enc) (C := Tryd.checked) (os := os) (X := fun w _ => laidMetH Tryd.prog Rows.fnNestedRow.laid w) false (laidWorld os) #[.slice none 0 0] 8 rfl (by kernel_rfl) (by kernel_rfl) (by kernel_rfl) (by kernel_rfl) (by kernel_rfl) (laid_metH os _)) ?_
  intro W base args ds gs before hval0 hW _ _ hL _
  have hval : ∀ (j : Nat) t v, Tryd.f4.params[j]? = some t → args[j]? = some v → Value.okWide Tryd.prog W .any base t v := hval0
  have hW' := hW
  obtain ⟨p, q, hA0, hV0, rfl, hfz, hnd⟩ := hW
  have hA : DataW.TrodAll enc Tryd.prog W 0 (fun _ => true) true Tryd.f4.params.toList args.toList ds p := hA0
  rw [Tryd.params4] at hA hval
  obtain ⟨v0, d0, rfl, rfl, h0⟩ := trodAll_one hA
  obtain ⟨rfl, rfl⟩ := trodVars_none hV0
  obtain ⟨a0, len0, cap0, rfl⟩ := okWide_slice Tryd.underlying23 (hval 0 23 v0 rfl rfl)
  have k0 := h0
  have lt0 : ∀ x ∈ p, x.block < W.heap.size := by obtain ⟨m, hm⟩ := k0; exact DataW.trod_lt m _ _ _ hm
  obtain ⟨x0, g0, _, s0⟩ := (show ∃ fuel, DataW.trod enc Tryd.prog W 0 (fun _ => true) true fuel 23 [.slice a0 len0 cap0] = some (d0, p) from h0).elim fun fuel hf => (Ev.opBytes fuel).2 _ _ _ _ _ _ _ _ _ (Nat.le_refl _) hf
  clear hA0 hV0 hval0
  have hv0 : Ev.VR W (fun _ _ => True) Ev.noGh (Ev.stO (Ev.obsO 0 [])).len (.sh 1 (Ev.byteC x0)) (.slice a0 len0 cap0) :=
    (Ev.shView_ok (s0.2 0 (.sl 1 (Ev.byteC x0)) _ rfl rfl)).mono (fun b o c _ hc => ⟨trivial, hc⟩) (fun r q n hn => ⟨hn, rfl, rfl, rfl, rfl, rfl⟩)
  refine (Ev.Fn.plain (Ev.lawNested x0 g0) (xs := [.slice a0 len0 cap0]) rfl (fun k v y hv hy => ?_)).mono ?_
  · match k with
    | 0 =>
      obtain rfl := Option.some.inj hv
      obtain rfl := Option.some.inj hy
      exact hv0
    | k + 1 => simp at hv
  rintro e W' ⟨rfl, bel⟩
  exact ⟨_, rfl, _, _, _, [], _, [], hW', trodAll_mk1 (shut_bool Tryd.underlying4 _), (trodAll_cons_mk (Below.trod laidOut (by kernel_rfl) (of_decide_eq_true (by kernel_rfl)) k0 bel lt0) trodAll_mk0), rfl, bel.frame _, fun h => by cases h⟩

theorem row_holds : Rows.FnNestedSaid :=
  OpenClaim.holds_of_wide 4 Tryd.f4 rfl rfl rfl rfl rfl rfl rfl ⟨rfl, rfl, rfl, rfl, rfl⟩ rfl rfl rfl rfl rfl (by kernel_rfl) Tryd.func4 (by kernel_rfl)
    (of_decide_eq_true (by kernel_rfl)) (by unfold Func.isWrapper; first | (rw [if_pos (by decide +kernel)]; kernel_rfl) | (rw [if_neg (by decide +kernel)]; exact ⟨rfl, rfl⟩))
    (fun os started H enc _ => lifted os started H enc)

/-- THE TIED CARD. -/
theorem fnNested_holds : Rows.FnNestedCardSaid :=
  Claim7.holds_tied_plain_at .later [] [.data, .pinned] true (true, "c05a9c6816458e1f3f244006d923428a81373b3b93466aa18adb946e2ecae5bd") false
    row_holds (fun _ h => by cases h) (by kernel_rfl) (fun _ h => by cases h) fnNested_row_tie rfl ⟨rfl, rfl⟩ (by kernel_rfl) rfl
    (fun f fn hf hfn => by
      obtain rfl : f = 4 := Option.some.inj ((show Tryd.prog.funcNamed "loop.example/g00104/laws.FnNested" = some 4 by kernel_rfl).symm.trans hf) |>.symm
      obtain rfl : fn = Tryd.f4 := (Option.some.inj (Tryd.func4.symm.trans hfn)).symm
      exact ⟨by kernel_rfl, fun j t ht => by
        rw [Tryd.params4] at ht
        have h9 : t = 23 := by
          rcases j with _ | j
          · simpa using ht.symm
          · simp at ht
        subst h9
        exact (show Tryd.prog.wantsStandIn 23 = false by kernel_rfl)⟩)
    (by kernel_rfl)
#print axioms fnNested_holds
end Go.Proofs.YtfhpkcdkinnnmaaDoor
