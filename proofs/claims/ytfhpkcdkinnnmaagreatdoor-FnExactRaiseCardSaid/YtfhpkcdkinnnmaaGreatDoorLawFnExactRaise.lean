/- The row of FnExactRaise: whatever IR comes in, the law answers true and its argument reads afterwards as before; and its tied card. Condition: the three tables of the program read as its text lays them. -/
import Derived.Test.YtfhpkcdkinnnmaaGreatDoorRows
import Derived.Test.YtfhpkcdkinnnmaaGreatDoorTie
import Derived.Test.YtfhpkcdkinnnmaaGreatDoorCards
import Derived.Test.YtfhpkcdkinnnmaaGreatDoorF5
import Derived.Lib.LaidIn
import Derived.Lib.LaidU8
import Derived.Lib.LaidTab
import Derived.Below
import Derived.Carry
import Derived.WalkKit
import Derived.ChangeOld
import Derived.ProofKit
import Derived.LaidMore
import Derived.OpenShut
import Derived.ShutString
import Derived.Stop.Joined
import Derived.SevenTiedAt
namespace Ev
open Go Go.Proofs Go.RowKit Go.ChangeShapes Go.WideShapes Go.Deep
/-- Called with trees that are only read, over cells that hold what is given, a function that answers one value comes back with it, and what stood stands. -/
theorem Fn.plainG {P : Program} {G : List (Addr × Option Value)} {f : Nat} {args : List V} {x : Value} {W : World} {xs : List Value} (h : Fn P G f args [] (fun rs os => rs = [.sc x] ∧ os = [])) (hG : ∀ a v, (a, v) ∈ G → ∃ b o, a = ⟨b, o, none⟩ ∧ b < W.heap.size ∧ W.cell? ⟨b, o, none⟩ = v) (hl : xs.length = args.length) (hx : ∀ (k : Nat) (v : V) (y : Value), args[k]? = some v → xs[k]? = some y → VR W (fun _ _ => True) noGh (stO (obsO 0 [])).len v y) :
    Calls P f xs.toArray W fun e W' => e = .returned x ∧ Below W.heap.size W W' := by
  refine (h.run W (fun _ _ => True) noGh (fun _ _ => none) xs hl hx (fun r p es d n hh => ?_) (fun b o hb => absurd rfl hb) (fun b o _ => rfl) (fun a v hm => by obtain ⟨b, o, h1, hb, h2⟩ := hG a v hm; exact ⟨b, o, h1, hb, h2, rfl⟩)).mono (fun e W' hh => ?_)
  · unfold St.at at hh
    have : (stO (obsO 0 [])).obj r = none := rfl
    rw [this] at hh; cases hh
  · obtain ⟨y, rs, obs', rfl, ⟨rfl, rfl⟩, ha⟩ := hh
    obtain ⟨g', pm', hA⟩ := ha 0 (Nat.le_refl _)
    have hv := hA.val
    have : (open3 0 [V.sc x]).1 = .sc x := rfl
    rw [this] at hv
    exact ⟨by rw [hv.sc_inv], hA.keep.os, hA.keep.tape, hA.keep.output, hA.keep.size, fun b hb => hA.keep.block b hb (fun _ => rfl)⟩
theorem agg_of {W : World} {ok : Nat → Nat → Prop} {g : Gh} {at_ : Nat → Path → Option Nat} {vs : List V} {cs : Array Value} (h : SRs W vs cs.toList) (hok : ∀ b o, ok b o) : VR W ok g at_ (.agg (vs.map shView)) (.agg cs) := by
  have := VR.agg (w := W) (ok := ok) (g := g) (at_ := at_) (vs.map shView) cs.toList (by rw [List.length_map]; exact h.1) (fun k v x hv hx => by
    rw [List.getElem?_map] at hv
    cases e : vs[k]? with
    | none => rw [e] at hv; cases hv
    | some u =>
      rw [e] at hv
      obtain rfl := Option.some.inj hv
      exact (shView_ok (h.2 k u x e hx)).mono (fun b o c _ hc => ⟨hok b o, hc⟩) (fun r p n hn => ⟨hn, rfl, rfl, rfl, rfl, rfl⟩))
  simpa using this
theorem tab_of_reads {W : World} (h : Lib.VarReads Tryz.prog W "internal/strconv.uint64pow10" (Lib.tabData .u64 Lib.pow10Tab)) : Lib.TabIs Tryz.prog W "internal/strconv.uint64pow10" .u64 Lib.pow10Tab := by
  obtain ⟨g', t', cs, fuel, p, hg', ht', hvar, hd⟩ := h
  obtain rfl := Option.some.inj ((show Tryz.prog.globalNamed "internal/strconv.uint64pow10" = some 0 by kernel_rfl).symm.trans hg')
  obtain rfl := Option.some.inj ((show (Tryz.prog.globals[0]?).map (·.type) = some 186 by kernel_rfl).symm.trans ht')
  unfold Lib.TabIs
  rw [hvar, ← Lib.cells_of_tab (n := 20) Tryz.underlying186 Tryz.underlying102 (by kernel_rfl) (by kernel_rfl) hd]
theorem of_pow {W : World} (h : Lib.TabIs Tryz.prog W "internal/strconv.uint64pow10" .u64 Lib.pow10Tab) : ∀ a v, (a, v) ∈ powG → ∃ b o, a = ⟨b, o, none⟩ ∧ b < W.heap.size ∧ W.cell? ⟨b, o, none⟩ = v := by
  intro a v hm
  obtain ⟨i, hi, he⟩ := List.mem_map.1 hm
  obtain ⟨rfl, rfl⟩ := Prod.mk.inj he
  have hl : Lib.pow10Tab.length = 20 := by unfold Lib.pow10Tab; rw [List.length_map, List.length_range]
  unfold Lib.TabIs World.var? at h
  rw [show Tryz.prog.globalNamed "internal/strconv.uint64pow10" = some 0 by kernel_rfl, Option.bind_some] at h
  refine ⟨0, i, rfl, ?_, ?_⟩
  · rcases Nat.lt_or_ge 0 W.heap.size with hb | hb
    · exact hb
    · rw [Array.getElem?_eq_none hb] at h; cases h
  · unfold World.cell?
    dsimp only
    cases e : W.heap[0]? with
    | none => rw [e] at h; cases h
    | some o =>
      rw [e] at h
      cases o with
      | cells cs t fr =>
        have h := Option.some.inj h
        subst h
        show (Lib.pow10Tab.map fun z => Value.int .u64 z).toArray[i]? = _
        rw [List.getElem?_toArray, List.getElem?_map]
      | _ => cases h
end Ev
namespace Go.Proofs.YtfhpkcdkinnnmaaGreatDoor
open Go Go.Shelf Go.ChangeShapes Go.WideShapes Go.ChangeAt Go.RowKit Go.Lib
open Go.ChangeMaps (open_string shut_string)

theorem own : ownKnob Tryz.prog.godebug = none := by kernel_rfl
theorem laidOut : laidOutB Tryz.prog = true := by kernel_rfl
theorem powSame : (Rows.laid_internal_strconv_uint64pow10 : DataW Unit) = Lib.tabData .u64 Lib.pow10Tab := by kernel_rfl

/-- A world that meets the condition: the settled one, the three variables holding what their initialisers lay. -/
noncomputable def laidWorld (os : Os) : World :=
  let w0 := World.holding Tryz.prog os ⟨#[], #[], []⟩
  let put (h : Array Obj) (g : Nat) (cs : Array Value) : Array Obj := h.modify g fun
    | .cells _ t frozen => .cells cs t frozen
    | o => o
  let h1 := put w0.heap 0 (Lib.pow10Tab.map fun z => Value.int .u64 z).toArray
  let h2 := put h1 1 (([0, 1, 28, 2, 29, 14, 24, 3, 30, 22, 20, 15, 25, 17, 4, 8, 31, 27, 13, 23, 21, 19, 16, 7, 26, 12, 18, 6, 11, 5, 10, 9] : List Int).map fun z => Value.int .u8 z).toArray
  let h3 := put h2 2 (([0, 1, 56, 2, 57, 49, 28, 3, 61, 58, 42, 50, 38, 29, 17, 4, 62, 47, 59, 36, 45, 43, 51, 22, 53, 39, 33, 30, 24, 18, 12, 5, 63, 55, 48, 27, 60, 41, 37, 16, 46, 35, 44, 21, 52, 32, 23, 11, 54, 26, 40, 15, 34, 20, 31, 10, 25, 14, 19, 9, 13, 8, 7, 6] : List Int).map fun z => Value.int .u8 z).toArray
  { w0 with heap := h3 }
theorem laid_met (os : Os) (args : Array Value) : laidMet Tryz.prog Rows.fnExactRaiseRow.laid ((laidWorld os).forCall (fun _ _ => 0) ⟨#[], args, []⟩).memory := by
  show laidMet Tryz.prog [("math/bits.deBruijn32tab", Rows.laid_math_bits_deBruijn32tab), ("math/bits.deBruijn64tab", Rows.laid_math_bits_deBruijn64tab), ("internal/strconv.uint64pow10", Rows.laid_internal_strconv_uint64pow10)] _
  exact (LaidIn.of_run (l := [("math/bits.deBruijn32tab", Rows.laid_math_bits_deBruijn32tab), ("math/bits.deBruijn64tab", Rows.laid_math_bits_deBruijn64tab), ("internal/strconv.uint64pow10", Rows.laid_internal_strconv_uint64pow10)]) [1, 2, 0] 8 (by kernel_rfl) (by kernel_rfl) (by kernel_rfl) (by kernel_rfl)).met
theorem laid_metH (os : Os) (args : Array Value) : laidMetH Tryz.prog Rows.fnExactRaiseRow.laid ((laidWorld os).forCall (fun _ _ => 0) ⟨#[], args, []⟩).memory := by
  rw [MakeChecks.laidMetH_plain _ _ _ (by kernel_rfl)]
  exact laid_met os args

set_option maxRecDepth 100000 in
set_option maxHeartbeats 2000000 in
theorem lifted (os : Os) (started : os.Started) (H : Type) (enc : TypeId × Value → H) :
    ReturnsInHanded {} Tryz.checked os 3 .any (fun w args => (Rows.fnExactRaiseSpec.pre enc Tryz.prog Tryz.f3 [] false w args ∧ laidMetH Tryz.prog Rows.fnExactRaiseRow.laid w) ∧ sizedMet enc Tryz.prog Tryz.f3 (OpenSpec.ofChange Rows.fnExactRaiseSpec) false w args)
      (Rows.fnExactRaiseSpec.post enc Tryz.prog Tryz.f3 false true false false) := by
  refine returnsInHanded_of_change_and (C := Tryz.checked) (X := fun w _ => laidMetH Tryz.prog Rows.fnExactRaiseRow.laid w) (fun _ _ _ hh h => h.of_heap hh) own started (by kernel_rfl) Tryz.func3
    (ChangeSpec.witness_at (enc := enc) (C := Tryz.checked) (os := os) (X := fun w _ => laidMetH Tryz.prog Rows.fnExactRaiseRow.laid w) false (laidWorld os) #[.agg #[.slice none 0 0]] 8 rfl (by kernel_rfl) (by kernel_rfl) (by kernel_rfl) (by kernel_rfl) (by kernel_rfl) (laid_metH os _)) ?_
  intro W base args ds gs before hval0 hW _ _ hL _
  have hval : ∀ (j : Nat) t v, Tryz.f3.params[j]? = some t → args[j]? = some v → Value.okWide Tryz.prog W .any base t v := hval0
  have hW' := hW
  obtain ⟨p, q, hA0, hV0, rfl, hfz, hnd⟩ := hW
  have hA : DataW.TrodAll enc Tryz.prog W 0 (fun _ => true) true Tryz.f3.params.toList args.toList ds p := hA0
  rw [Tryz.params3] at hA hval
  obtain ⟨v0, vs0, d0, ds0, p0, q0, hargs, rfl, rfl, h0, r0⟩ := trodAll_cons hA
  obtain ⟨rfl, rfl, rfl⟩ := trodAll_nil r0
  obtain rfl : args = #[v0] := by cases args; simp_all
  obtain ⟨rfl, rfl⟩ := trodVars_none hV0
  obtain ⟨cs0, rfl, _⟩ := okWide_struct Tryz.underlying24 (hval 0 24 v0 rfl rfl)
  have k0 := h0
  have lt0 : ∀ x ∈ p0, x.block < W.heap.size := by obtain ⟨m, hm⟩ := k0; exact DataW.trod_lt m _ _ _ hm
  obtain ⟨x0, g0, _, s0⟩ := (show ∃ fuel, DataW.trod enc Tryz.prog W 0 (fun _ => true) true fuel 24 cs0.toList = some (d0, p0) from h0).elim fun fuel hf => (Ev.opIr fuel).2 _ _ _ _ _ _ _ _ _ (Nat.le_refl _) hf
  rw [MakeChecks.laidMetH_plain _ _ _ (by kernel_rfl)] at hL
  have hL' : laidMet Tryz.prog [("math/bits.deBruijn32tab", Rows.laid_math_bits_deBruijn32tab), ("math/bits.deBruijn64tab", Rows.laid_math_bits_deBruijn64tab), ("internal/strconv.uint64pow10", Lib.tabData .u64 Lib.pow10Tab)] W := by
    rw [← powSame]; exact hL
  have htab : Lib.TabIs Tryz.prog W "internal/strconv.uint64pow10" .u64 Lib.pow10Tab := Ev.tab_of_reads (Lib.laidMet.reads hL' (.tail _ (.tail _ (.head _))))
  clear hA0 hV0 hval0
  have e0 : x0.acells = x0.cs.map Ev.shView := by cases x0; rfl
  refine (Ev.Fn.plainG (Ev.lawRaise (G := Ev.powG) (fun _ h => h) x0 g0) (Ev.of_pow htab) (xs := [.agg cs0]) rfl (fun k v y hv hy => ?_)).mono ?_
  · match k with
    | 0 =>
      obtain rfl := Option.some.inj hv
      obtain rfl := Option.some.inj hy
      rw [e0]; exact Ev.agg_of s0 (fun _ _ => trivial)
    | k + 1 => simp at hv
  rintro e W' ⟨rfl, bel⟩
  exact ⟨_, rfl, _, _, _, [], _, [], hW', trodAll_mk1 (shut_bool Tryz.underlying4 _), (trodAll_cons_mk (Below.trod laidOut (by kernel_rfl) (of_decide_eq_true (by kernel_rfl)) k0 bel lt0) trodAll_mk0), rfl, bel.frame _, fun h => by cases h⟩

theorem row_holds : Rows.FnExactRaiseSaid :=
  OpenClaim.holds_of_wide 3 Tryz.f3 rfl rfl rfl rfl rfl rfl rfl ⟨rfl, rfl, rfl, rfl, rfl⟩ rfl rfl rfl rfl rfl (by kernel_rfl) Tryz.func3 (by kernel_rfl)
    (of_decide_eq_true (by kernel_rfl)) (by unfold Func.isWrapper; first | (rw [if_pos (by decide +kernel)]; kernel_rfl) | (rw [if_neg (by decide +kernel)]; exact ⟨rfl, rfl⟩))
    (fun os started H enc _ => lifted os started H enc)

/-- THE TIED CARD. -/
theorem fnExactRaise_holds : Rows.FnExactRaiseCardSaid :=
  Claim7.holds_tied_plain_at .later [] [.data, .data, .data] true (true, "b0f4847fedddc41d10c5c7fea3b886b1347ca43a8fc37a5508311d38b8b21387") false
    row_holds (fun _ h => by cases h) (by kernel_rfl) (fun _ h => by cases h) fnExactRaise_row_tie rfl ⟨rfl, rfl⟩ (by kernel_rfl) rfl
    (fun f fn hf hfn => by
      obtain rfl : f = 3 := Option.some.inj ((show Tryz.prog.funcNamed "loop.example/g00104/laws.FnExactRaise" = some 3 by kernel_rfl).symm.trans hf) |>.symm
      obtain rfl : fn = Tryz.f3 := (Option.some.inj (Tryz.func3.symm.trans hfn)).symm
      exact ⟨by kernel_rfl, fun j t ht => by
        rw [Tryz.params3] at ht
        rcases j with _ | j
        · obtain rfl : t = 24 := by simpa using ht.symm
          exact (show Tryz.prog.wantsStandIn 24 = false by kernel_rfl)
        · simp at ht⟩)
    (by kernel_rfl)
#print axioms fnExactRaise_holds
end Go.Proofs.YtfhpkcdkinnnmaaGreatDoor
