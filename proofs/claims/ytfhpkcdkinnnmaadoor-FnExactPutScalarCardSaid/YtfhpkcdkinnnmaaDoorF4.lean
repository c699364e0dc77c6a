/- Contracts of functions of the given program, shown on the evaluator; each states its own conditions. -/
import Derived.Test.YtfhpkcdkinnnmaaDoorF2
import Derived.Test.YtfhpkcdkinnnmaaDoorF3
import Derived.Test.YtfhpkcdkinnnmaaDoorE4
open Go Ev Go.Proofs Go.Lib Go.RowKit
set_option maxRecDepth 100000
set_option maxHeartbeats 4000000
set_option linter.unusedVariables false
namespace Ev
/-- The cells of the two tables, and what they hold. -/
def utfG (g3 g4 : Nat) : List (Addr × Value) := (List.range 256).map (fun c => ((⟨g3, c, none⟩ : Addr), Value.int .u8 (firstT c))) ++ ((List.range 16).map (fun i => ((⟨g4, 2 * i, none⟩ : Addr), Value.int .u8 (accLo i))) ++ (List.range 16).map (fun i => ((⟨g4, 2 * i + 1, none⟩ : Addr), Value.int .u8 (accHi i))))
theorem tabs_of {g3 g4 : Nat} {w : World} (h : ∀ a v, (a, v) ∈ utfG g3 g4 → w.cell? a = some v) : Lib.Utf8Tabs g3 g4 w :=
  ⟨fun c hc => h _ _ (List.mem_append_left _ (List.mem_map.2 ⟨c, List.mem_range.2 hc, rfl⟩)), fun i hi => ⟨h _ _ (List.mem_append_right _ (List.mem_append_left _ (List.mem_map.2 ⟨i, List.mem_range.2 hi, rfl⟩))), h _ _ (List.mem_append_right _ (List.mem_append_right _ (List.mem_map.2 ⟨i, List.mem_range.2 hi, rfl⟩)))⟩⟩
theorem of_tabs {g3 g4 : Nat} {w : World} (h : Lib.Utf8Tabs g3 g4 w) : ∀ a v, (a, v) ∈ utfG g3 g4 → ∃ b o, a = ⟨b, o, none⟩ ∧ w.cell? ⟨b, o, none⟩ = some v := by
  intro a v hm
  rcases List.mem_append.1 hm with hm | hm
  · obtain ⟨c, hc, he⟩ := List.mem_map.1 hm
    obtain ⟨rfl, rfl⟩ := Prod.mk.inj he
    exact ⟨_, _, rfl, h.1 c (List.mem_range.1 hc)⟩
  rcases List.mem_append.1 hm with hm | hm
  · obtain ⟨c, hc, he⟩ := List.mem_map.1 hm
    obtain ⟨rfl, rfl⟩ := Prod.mk.inj he
    exact ⟨_, _, rfl, (h.2 c (List.mem_range.1 hc)).1⟩
  · obtain ⟨c, hc, he⟩ := List.mem_map.1 hm
    obtain ⟨rfl, rfl⟩ := Prod.mk.inj he
    exact ⟨_, _, rfl, (h.2 c (List.mem_range.1 hc)).2⟩
/-- A function of whole values behind which all that stood stands. -/
theorem fn_below {P : Program} {G : List (Addr × Value)} {f : Nat} {xs : List Value} {x : Value} (h : ∀ w : World, (∀ a v, (a, v) ∈ G → w.cell? a = some v) → Calls P f xs.toArray w fun e w' => e = .returned x ∧ Below w.heap.size w w') : Fn P G f (xs.map .sc) [] (ret [.sc x] []) := by
  refine ⟨fun w ok g pm ys hl hv hb hlow hok hgl => ?_⟩
  have e : ys = xs := by
    rw [List.length_map] at hl
    refine List.ext_getElem hl (fun k h1 h2 => ?_)
    exact (hv k (.sc xs[k]) ys[k] (by rw [List.getElem?_map, List.getElem?_eq_getElem h2]; rfl) (List.getElem?_eq_getElem h1)).sc_inv
  subst e
  refine (h w (fun a v hm => by obtain ⟨b, o, rfl, h1, _⟩ := hgl a v hm; exact h1)).mono fun e w' ⟨h1, h2⟩ => ⟨x, [.sc x], [], h1, ⟨rfl, rfl⟩, fun n0 _ => ⟨g, pm, ?_⟩⟩
  have hblk : ∀ b, b < w.heap.size → w'.heap[b]? = w.heap[b]? := h2.block
  exact {
    keep := ⟨h2.os, h2.tape, h2.output, h2.size, fun b hb _ => hblk b hb, fun b o hb _ => by
      constructor
      · unfold World.cell?; dsimp only; rw [hblk b hb]
      · unfold World.frozen?; dsimp only; rw [hblk b hb]⟩
    len := rfl
    top := fun k o o' h => by simp at h
    own := fun b o hb => ⟨.inl hb, Nat.lt_of_lt_of_le (hlow b o hb) h2.size⟩
    blk := fun r p es d n hh => by
      have : (stO ((open3 n0 [V.sc x]).2.1 ++ obsO 0 [])).at r p = none := rfl
      rw [this] at hh; cases hh
    val := .sc x
    rng := fun r hr => absurd rfl hr
    le := Nat.le_refl _ }
def utf8B (s : ByteArray) : Bool := Go.Proofs.YtfhpkcdkinnnmaaDoor.Utf.okFrom s s.size 0
noncomputable def gUtf : List (Addr × Value) := utfG (Go.Proofs.YtfhpkcdkinnnmaaDoor.Tryd.laysValid_ren.g 3) (Go.Proofs.YtfhpkcdkinnnmaaDoor.Tryd.laysValid_ren.g 4)
theorem specUtf (s : ByteArray) (hs : s.size ≤ 1048576) : Fn Tryd.prog gUtf 48 [.sc (.string s)] [] (ret [.sc (.bool (utf8B s))] []) :=
  fn_below (xs := [.string s]) fun w _ => Go.Proofs.YtfhpkcdkinnnmaaDoor.spec_walk s w hs
theorem implUtf (s : ByteArray) (hs : s.size ≤ 1048576) : Fn Tryd.prog gUtf 52 [.sc (.string s)] [] (ret [.sc (.bool (utf8B s))] []) :=
  fn_below (xs := [.string s]) fun w h => Go.Proofs.YtfhpkcdkinnnmaaDoor.impl_walk s w hs (tabs_of h)
end Ev
open Go Ev Go.ChangeShapes Go.WideShapes Go.RowKit Go.Deep
open Go.Proofs
set_option maxRecDepth 100000
set_option maxHeartbeats 4000000
set_option linter.unusedVariables false
namespace Ev
theorem leM {n : Nat} (h : n ≤ maxLen) : n ≤ 9223372036854775807 := Nat.le_trans h (by decide)
theorem wf_byte {n : Int} (h : (Lit.int .u8 n).wf = true) : 0 ≤ n ∧ n < 256 := by
  unfold Lit.wf at h
  simp at h
  have h1 : IntKind.u8.min = 0 := rfl
  have h2 : IntKind.u8.max = 255 := rfl
  omega
theorem wf_int {n : Int} (h : (Lit.int .i64 n).wf = true) : -9223372036854775808 ≤ n ∧ n < 9223372036854775808 := by
  unfold Lit.wf at h
  simp at h
  have h1 : IntKind.i64.min = -9223372036854775808 := rfl
  have h2 : IntKind.i64.max = 9223372036854775807 := rfl
  omega
theorem Val.css_map : ∀ l : List Val, Val.css l = l.map Val.cs
  | [] => by rw [Val.css]; rfl
  | a :: l => by rw [Val.css, List.map_cons, Val.css_map l]
theorem Item.css_map : ∀ l : List Item, Item.css l = l.map Item.cs
  | [] => by rw [Item.css]; rfl
  | a :: l => by rw [Item.css, List.map_cons, Item.css_map l]
theorem Val.okl_of : ∀ {l : List Val}, (∀ a ∈ l, a.ok) → Val.okl l
  | [], _ => by rw [Val.okl]; trivial
  | a :: l, h => by rw [Val.okl]; exact ⟨h a (List.mem_cons_self ..), Val.okl_of (fun b hb => h b (List.mem_cons_of_mem _ hb))⟩
theorem Item.okl_of : ∀ {l : List Item}, (∀ a ∈ l, a.ok) → Item.okl l
  | [], _ => by rw [Item.okl]; trivial
  | a :: l, h => by rw [Item.okl]; exact ⟨h a (List.mem_cons_self ..), Item.okl_of (fun b hb => h b (List.mem_cons_of_mem _ hb))⟩
set_option maxRecDepth 100000 in
theorem opValOf (N : Nat) (H : ∀ M, M < N → OpV Tryd.prog M 25 2 Msg.cs Msg.ok) : OpV Tryd.prog N 27 4 Val.cs Val.ok := by
  refine opv_as (fun y : Int × ByteArray × Msg => (⟨y.1, y.2.1, y.2.2.items, y.2.2.unk⟩ : Val)) (fun y hy => ?_) (fun y => ?_) (opv_struct Tryd.underlying27 (by kernel_rfl) (fun M hM => opvf_cons rfl (opv_int Tryd.underlying3 (by kernel_rfl)) rfl (opvf_cons rfl (opv_string Tryd.underlying9 (by kernel_rfl)) rfl (opvf_last (sz := 2) (e := Msg.cs) (good := Msg.ok) rfl (H M hM)))))
  · obtain ⟨n, text, items, unk⟩ := y
    obtain ⟨g1, g2, g3⟩ := hy
    have g3 : Item.oks items ∧ (unk.length ≤ 9223372036854775807 ∧ ∀ b ∈ unk, 0 ≤ b ∧ b < 256) := g3
    show Val.ok ⟨n, text, items, unk⟩
    rw [Val.ok]
    exact ⟨leM g2, g3.1, g3.2.1, wf_int g1, g3.2.2⟩
  · obtain ⟨n, text, items, unk⟩ := y
    show Val.cs ⟨n, text, items, unk⟩ = _
    rw [Val.cs]; rfl
set_option maxRecDepth 100000 in
theorem opItemOf (N : Nat) (H : ∀ M, M < N → OpV Tryd.prog M 27 4 Val.cs Val.ok) : OpV Tryd.prog N 119 2 Item.cs Item.ok := by
  refine opv_as (fun y : Int × List Val => (⟨y.1, y.2⟩ : Item)) (fun y hy => ?_) (fun y => ?_) (opv_struct Tryd.underlying119 (by kernel_rfl) (fun M hM => opvf_cons rfl (opv_int Tryd.underlying3 (by kernel_rfl)) rfl (opvf_last rfl (opv_slice Tryd.underlying117 (by kernel_rfl) (by decide) (fun M2 hM2 => H M2 (by omega))))))
  · obtain ⟨num, vals⟩ := y
    show Item.ok ⟨num, vals⟩
    rw [Item.ok]
    exact ⟨leM hy.2.1, Val.okl_of hy.2.2⟩
  · obtain ⟨num, vals⟩ := y
    show Item.cs ⟨num, vals⟩ = _
    rw [Item.cs, Val.css_map]; rfl
set_option maxRecDepth 100000 in
theorem opMsg : ∀ N, OpV Tryd.prog N 25 2 Msg.cs Msg.ok := by
  intro N
  induction N using Nat.strongRecOn with
  | _ N ih =>
    refine opv_as (fun y : List Item × List Int => (⟨y.1, y.2⟩ : Msg)) (fun y hy => ?_) (fun y => ?_) (opv_struct Tryd.underlying25 (by kernel_rfl) (fun M hM => opvf_cons rfl (opv_slice Tryd.underlying22 (by kernel_rfl) (by decide) (fun M2 hM2 => opItemOf M2 (fun M3 hM3 => opValOf M3 (fun M4 hM4 => ih M4 (by omega))))) rfl (opvf_last rfl (opv_slice Tryd.underlying23 (by kernel_rfl) (by decide) (fun M2 hM2 => opv_int Tryd.underlying5 (by kernel_rfl))))))
    · obtain ⟨items, unk⟩ := y
      exact ⟨⟨leM hy.1.1, Item.okl_of hy.1.2⟩, leM hy.2.1, fun b hb => wf_byte (hy.2.2 b hb)⟩
    · obtain ⟨items, unk⟩ := y
      show Msg.cs ⟨items, unk⟩ = _
      rw [Msg.cs, Item.css_map]; rfl
theorem opVal (N : Nat) : OpV Tryd.prog N 27 4 Val.cs Val.ok := opValOf N (fun M _ => opMsg M)
end Ev
