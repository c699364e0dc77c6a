import Derived.Test.YtnchbgiojdijbaaWWords
import Derived.Deep.Slices
import Derived.Deep.Strs
import Derived.ChangeSame
import Derived.RowKit
namespace Go.Proofs.Ytnchbgiojdijbaa.Op
open Go Go.ChangeShapes Go.WideShapes Go.RowKit Go.Deep Go.Proofs.YtnchbgiojdijbaaW.PrintWords
set_option linter.unusedVariables false

/-- Each reading of the type t, of at most N steps, is one of the kind d, of a value that is good. -/
def Opn (P : Program) {α : Type} (N : Nat) (t : TypeId) (d : Kd α) (good : α → Prop) : Prop :=
  P.cellsOf t = d.sz ∧ ∀ (H : Type) (enc : TypeId × Value → H) (W : World) (base : Nat) (sp : Nat → Bool) (held : Bool) (fuel : Nat) (cs : List Value) (x : DataW H × List MemPlace),
    fuel ≤ N → DataW.trod enc P W base sp held fuel t cs = some x → ∃ v, good v ∧ d.K W v cs

theorem op_int {P : Program} {N : Nat} {t : TypeId} {k : IntKind} (ht : P.underlying t = some (.int k)) (hc : P.cellsOf t = 1) : Opn P N t (Kd.int k) (fun n => (Lit.int k n).wf = true) :=
  ⟨hc, fun H enc W base sp held fuel cs x _ h => by
    obtain ⟨n, rfl, _, hw⟩ := DataW.trod_int ht h
    exact ⟨n, hw, rfl⟩⟩
theorem op_string {P : Program} {N : Nat} {t : TypeId} (ht : P.underlying t = some .string) (hc : P.cellsOf t = 1) : Opn P N t Kd.string (fun s => s.size ≤ maxLen) :=
  ⟨hc, fun H enc W base sp held fuel cs x _ h => by
    obtain ⟨s, rfl, _, hw⟩ := DataW.trod_string ht h
    exact ⟨s, hw, rfl⟩⟩
theorem trod_bool_ {P : Program} {t : TypeId} {H : Type} {enc : TypeId × Value → H} {W : World} {base : Nat} {sp : Nat → Bool} {held : Bool} {fuel : Nat} {cs : List Value} {x : DataW H × List MemPlace} (ht : P.underlying t = some .bool) (h : DataW.trod enc P W base sp held fuel t cs = some x) : ∃ b, cs = [.bool b] := by
  cases fuel with
  | zero => simp [DataW.trod] at h
  | succ n =>
    unfold DataW.trod at h
    rw [ht] at h
    split at h <;> simp_all
theorem op_bool {P : Program} {N : Nat} {t : TypeId} (ht : P.underlying t = some .bool) (hc : P.cellsOf t = 1) : Opn P N t Kd.bool (fun _ => True) :=
  ⟨hc, fun H enc W base sp held fuel cs x _ h => by
    obtain ⟨b, rfl⟩ := trod_bool_ ht h
    exact ⟨b, trivial, rfl⟩⟩
theorem op_slice {P : Program} {N : Nat} {α : Type} {t e : TypeId} {d : Kd α} {good : α → Prop} (ht : P.underlying t = some (.slice e)) (hc : P.cellsOf t = 1) (hs : P.cellsOf e = d.sz) (he : ∀ M, M < N → Opn P M e d good) :
    Opn P N t (Kd.slice e d) (fun xs => xs.length ≤ maxLen ∧ ∀ x ∈ xs, good x) :=
  ⟨hc, fun H enc W base sp held fuel cs x hN h => by
    rcases DataW.trod_slice ht h with ⟨rfl, _⟩ | ⟨a, len, cap, elems, rest, n, hf, rfl, _, hb, hl, hm, hlen, hel, _, _⟩
    · exact ⟨[], ⟨Nat.zero_le _, fun x hx => by cases hx⟩, none, 0, rfl, Nat.le_refl _, rfl, by simp, fun h => absurd h (Nat.lt_irrefl 0)⟩
    · have each : ∀ i, i < len → ∃ v, good v ∧ ∃ cs', W.cells? base (a.add (i * P.cellsOf e)) (P.cellsOf e) = some cs' ∧ d.K W v cs' := fun i hi => by
        have h1 := hel i hi
        rw [List.getElem?_eq_getElem (by omega)] at h1
        obtain ⟨cs', h2, h3⟩ := Option.bind_eq_some_iff.1 h1
        obtain ⟨v, g, k⟩ := (he n (by omega)).2 H enc W base sp held n cs' _ (Nat.le_refl _) h3
        exact ⟨v, g, cs', h2, k⟩
      by_cases hz : len = 0
      · subst hz
        exact ⟨[], ⟨Nat.zero_le _, fun x hx => by cases hx⟩, some a, cap, rfl, hl, rfl, by simp, fun h => absurd h (Nat.lt_irrefl 0)⟩
      · obtain ⟨v0, _⟩ := each 0 (by omega)
        let V : Nat → α := fun i => if h : i < len then Classical.choose (each i h) else v0
        have hV : ∀ i, i < len → good (V i) ∧ ∃ cs', W.cells? base (a.add (i * P.cellsOf e)) (P.cellsOf e) = some cs' ∧ d.K W (V i) cs' := fun i hi => by
          have := Classical.choose_spec (each i hi)
          simp only [V, hi, dif_pos]
          exact this
        have hlen : ((List.range len).map V).length = len := by rw [List.length_map, List.length_range]
        refine ⟨(List.range len).map V, ⟨by rw [hlen]; omega, fun x hx => ?_⟩, some a, cap, by rw [hlen], by rw [hlen]; exact hl, ?_⟩
        · obtain ⟨i, hi, rfl⟩ := List.mem_map.1 hx
          exact (hV i (List.mem_range.1 hi)).1
        · refine ⟨rfl, by rw [hlen]; exact Nat.le_trans hl hm, fun _ => ⟨a, rfl, fun j p hj => ?_⟩⟩
          have hjl : j < len := by
            have := (List.getElem?_eq_some_iff.1 hj).1
            rwa [hlen] at this
          obtain ⟨g, cs', h1, h2⟩ := hV j hjl
          have hp : p = V j := by
            rw [List.getElem?_map, List.getElem?_range hjl] at hj
            exact (Option.some.inj hj).symm
          subst hp
          obtain ⟨_, h3, h4⟩ := World.cells?_some h1
          rw [hs] at h1 h3 h4
          refine ⟨cs', h3, h2, fun i u hu => ?_⟩
          have hi : i < d.sz := by
            have := (List.getElem?_eq_some_iff.1 hu).1
            omega
          have h5 := h4 i hi
          have e2 : (a.add (j * d.sz + i)) = (a.add (j * d.sz)).add i := (Go.Deep.add_add a _ _).symm
          rw [e2, h5]
          exact hu⟩
/-- The fields from the cell off on, all of them that are left, are one value of the kind d. -/
def OpF (P : Program) {α : Type} (N : Nat) (fs : List Field) (off : Nat) (d : Kd α) (good : α → Prop) : Prop :=
  ∀ (H : Type) (enc : TypeId × Value → H) (W : World) (base : Nat) (sp : Nat → Bool) (held : Bool) (n : Nat) (cs : List Value), n ≤ N → cs.length = off + d.sz →
    (∀ f ∈ fs, ∃ y, DataW.trod enc P W base sp held n f.type ((cs.drop f.offset).take (P.cellsOf f.type)) = some y) → ∃ v, good v ∧ d.K W v (cs.drop off)
theorem opf_last {P : Program} {N : Nat} {α : Type} {f : Field} {off : Nat} {d : Kd α} {good : α → Prop} (hf : f.offset = off) (h : Opn P N f.type d good) : OpF P N [f] off d good := by
  intro H enc W base sp held n cs hN hl hall
  obtain ⟨y, hy⟩ := hall f (List.mem_singleton.2 rfl)
  rw [hf, h.1, List.take_of_length_le (by rw [List.length_drop]; omega)] at hy
  exact h.2 H enc W base sp held n _ _ hN hy
theorem opf_cons {P : Program} {N : Nat} {α β : Type} {f : Field} {fs : List Field} {off o2 : Nat} {d : Kd α} {e : Kd β} {good : α → Prop} {good2 : β → Prop} (hf : f.offset = off) (h : Opn P N f.type d good) (ho : o2 = off + d.sz) (h2 : OpF P N fs o2 e good2) :
    OpF P N (f :: fs) off (Kd.pair d e) (fun p => good p.1 ∧ good2 p.2) := by
  subst ho
  intro H enc W base sp held n cs hN hl hall
  have hl' : cs.length = off + d.sz + e.sz := by rw [hl]; show off + (d.sz + e.sz) = _; omega
  obtain ⟨y, hy⟩ := hall f (List.mem_cons_self)
  rw [hf, h.1] at hy
  obtain ⟨v, g, k⟩ := h.2 H enc W base sp held n _ _ hN hy
  obtain ⟨v2, g2, k2⟩ := h2 H enc W base sp held n cs hN hl' (fun f hf => hall f (List.mem_cons_of_mem _ hf))
  refine ⟨(v, v2), ⟨g, g2⟩, (cs.drop off).take d.sz, cs.drop (off + d.sz), ?_, k, k2⟩
  rw [← List.drop_drop]
  exact (List.take_append_drop d.sz (cs.drop off)).symm
theorem op_struct {P : Program} {N : Nat} {α : Type} {t : TypeId} {fs : Array Field} {d : Kd α} {good : α → Prop} (ht : P.underlying t = some (.struct fs)) (hc : P.cellsOf t = d.sz) (h : ∀ M, M < N → OpF P M fs.toList 0 d good) : Opn P N t d good :=
  ⟨hc, fun H enc W base sp held fuel cs x hN hx => by
    obtain ⟨xs, n, hf0, _, hl, hlen, hf⟩ := DataW.trod_struct ht hx
    have := h n (by omega) H enc W base sp held n cs (Nat.le_refl _) (by rw [hl, hc, Nat.zero_add]) (fun f hfm => by
      obtain ⟨i, hi, hfi⟩ := List.getElem_of_mem hfm
      have hi' : i < fs.size := by simpa using hi
      have e : fs[i]? = some f := by
        rw [Array.getElem?_eq_getElem hi']
        simpa using hfi
      have := hf i f e
      rw [List.getElem?_eq_getElem (by omega)] at this
      exact ⟨_, this⟩)
    simpa using this⟩
theorem op_iso {P : Program} {N : Nat} {α β : Type} {t : TypeId} {d : Kd α} {good : α → Prop} (f : β → α) (g : α → β) (hg : ∀ x, f (g x) = x) (h : Opn P N t d good) : Opn P N t (Kd.iso d f) (fun y => good (f y)) :=
  ⟨h.1, fun H enc W base sp held fuel cs x hN hx => by
    obtain ⟨v, gv, k⟩ := h.2 H enc W base sp held fuel cs x hN hx
    refine ⟨g v, by show good (f (g v)); rw [hg]; exact gv, ?_⟩
    show d.K W (f (g v)) cs
    rw [hg]; exact k⟩
/-- One kind read as another. -/
theorem op_as {P : Program} {N : Nat} {α β : Type} {t : TypeId} {d : Kd α} {d' : Kd β} {good : α → Prop} {good' : β → Prop} (g : α → β) (hs : d'.sz = d.sz) (hg : ∀ v, good v → good' (g v)) (hk : ∀ W v cs, d.K W v cs → d'.K W (g v) cs) (h : Opn P N t d good) : Opn P N t d' good' :=
  ⟨h.1.trans hs.symm, fun H enc W base sp held fuel cs x hN hx => by
    obtain ⟨v, gv, k⟩ := h.2 H enc W base sp held fuel cs x hN hx
    exact ⟨g v, hg v gv, hk W v cs k⟩⟩
end Go.Proofs.Ytnchbgiojdijbaa.Op
