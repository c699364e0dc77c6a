/- Calls. -/
import Derived.Test.YtfhpkcdkinnnmaaGreatDoorE3
import Derived.OrdersHeld
import Derived.IntWalk
import Derived.Deep.Slices
import Derived.Deep.Strs
import Derived.ChangeSame
import Derived.RowKit
namespace Ev
open Go Go.RowKit
set_option linter.unusedVariables false
set_option linter.unusedSimpArgs false

theorem posOf_mem {r k m : Nat} {l : List Nat} (h : posOf r l k = some m) : r ∈ l := by
  cases Classical.em (r ∈ l) with
  | inl h => exact h
  | inr h' => rw [posOf_none_iff.2 h'] at h; cases h
theorem addR_sub : ∀ (l L : List Nat) (r : Nat), r ∈ L → r ∈ addR 0 l L
  | [], L, r, h => h
  | x :: l, L, r, h => by
    unfold addR
    split
    · exact addR_sub l L r h
    · split
      · exact addR_sub l L r h
      · exact addR_sub l _ r (List.mem_append_left _ h)
theorem addR_mem : ∀ (l L : List Nat) (r : Nat), r ∈ l → r ∈ addR 0 l L
  | x :: l, L, r, h => by
    have hb : Nat.blt x 0 = false := by cases e : Nat.blt x 0 with
      | false => rfl
      | true => have := blt_iff.1 e; omega
    unfold addR
    rw [hb]
    dsimp only
    rcases List.mem_cons.1 h with rfl | h
    · split
      · rename_i e; exact addR_sub l L _ (posOf_mem e)
      · exact addR_sub l _ _ (List.mem_append_right _ (List.mem_singleton.2 rfl))
    · split
      · exact addR_mem l L r h
      · exact addR_mem l _ r h
theorem lentR_sub (ms : List Nat) : ∀ (vs : List V) (k : Nat) (L : List Nat) (r : Nat), r ∈ L → r ∈ lentR ms k vs L
  | [], k, L, r, h => h
  | v :: vs, k, L, r, h => by
    unfold lentR
    split
    · exact lentR_sub ms vs (k + 1) L r h
    · exact lentR_sub ms vs (k + 1) _ r (addR_sub _ _ r h)
theorem lentR_mem (ms : List Nat) : ∀ (vs : List V) (k : Nat) (L : List Nat) (i : Nat) (v : V) (r : Nat), vs[i]? = some v → modeAt ms (k + i) ≠ 1 → r ∈ roots2 v → r ∈ lentR ms k vs L
  | [], k, L, i, v, r, h, hm, hr => by simp at h
  | u :: vs, k, L, i, v, r, h, hm, hr => by
    unfold lentR
    cases i with
    | zero =>
      obtain rfl := Option.some.inj (show some u = some v from h)
      split
      · rename_i e; exact absurd e hm
      · exact lentR_sub ms vs (k + 1) _ r (addR_mem _ _ r hr)
    | succ i =>
      have h : vs[i]? = some v := h
      rw [show k + (i + 1) = k + 1 + i by omega] at hm
      split
      · exact lentR_mem ms vs (k + 1) L i v r h hm hr
      · exact lentR_mem ms vs (k + 1) _ i v r h hm hr
theorem meets_false : ∀ {L G : List Nat}, meets L G = false → ∀ r ∈ L, r ∉ G
  | x :: L, G, h, r, hr => by
    unfold meets at h
    split at h
    · cases h
    · rename_i e
      rcases List.mem_cons.1 hr with rfl | hr
      · exact posOf_none_iff.1 e
      · exact meets_false h r hr
theorem obsOf_spec {s : St} : ∀ {G : List Nat} {obs : List Ob}, obsOf s G = some obs → obs.length = G.length ∧ ∀ (k r : Nat), G[k]? = some r → s.obj r = obs[k]? ∧ s.obj r ≠ none
  | [], obs, h => by
    obtain rfl := Option.some.inj (show some [] = some obs from h)
    exact ⟨rfl, fun k r hk => by simp at hk⟩
  | r :: G, obs, h => by
    unfold obsOf at h
    split at h
    case h_2 => cases h
    rename_i _ o ho
    split at h
    case h_2 => cases h
    rename_i _ l hl
    obtain rfl := Option.some.inj h
    obtain ⟨h1, h2⟩ := obsOf_spec hl
    refine ⟨by simp [h1], fun k r' hk => ?_⟩
    cases k with
    | zero => obtain rfl := Option.some.inj hk; exact ⟨ho, by rw [ho]; simp⟩
    | succ k => exact h2 k r' hk
theorem argsL_spec {C : Cx} {s : St} {ms : List Nat} {hs : List (List Nat)} {G : List Nat} : ∀ {vals vs : List V} {k : Nat}, argsL C s ms hs G k vals = some vs → vs.length = vals.length ∧
    ∀ (i : Nat) (v' : V), vs[i]? = some v' → ∃ v, vals[i]? = some v ∧ ((modeAt ms (k + i) = 1 ∧ v' = ren2 (fun r => posOf r G 0) v) ∨ (modeAt ms (k + i) ≠ 1 ∧ ∃ u, lend2 s v = some u ∧ v' = nilA (hs.getD (k + i) []) u))
  | [], vs, k, h => by
    obtain rfl := Option.some.inj (show some [] = some vs from h)
    exact ⟨rfl, fun i v' hi => by simp at hi⟩
  | v :: vals, vs, k, h => by
    unfold argsL at h
    split at h
    · rename_i hm
      split at h
      case h_2 => cases h
      rename_i _ l hl
      obtain rfl := Option.some.inj h
      obtain ⟨h1, h2⟩ := argsL_spec hl
      refine ⟨by simp [h1], fun i v' hi => ?_⟩
      cases i with
      | zero => obtain rfl := Option.some.inj hi; exact ⟨v, rfl, .inl ⟨hm, rfl⟩⟩
      | succ i => rw [show k + (i + 1) = k + 1 + i by omega]; exact h2 i v' hi
    · rename_i hm
      split at h
      case h_2 => cases h
      rename_i _ u hu
      split at h
      case h_2 => cases h
      rename_i _ l hl
      obtain rfl := Option.some.inj h
      obtain ⟨h1, h2⟩ := argsL_spec hl
      refine ⟨by simp [h1], fun i v' hi => ?_⟩
      cases i with
      | zero => obtain rfl := Option.some.inj hi; exact ⟨v, rfl, .inr ⟨hm, u, hu, rfl⟩⟩
      | succ i => rw [show k + (i + 1) = k + 1 + i by omega]; exact h2 i v' hi

theorem VR.nilV {w : World} {ok : Nat → Nat → Prop} {g : Gh} {at_ : Nat → Path → Option Nat} {hs : List Nat} {v : V} {x : Value} (h : VR w ok g at_ v x) : VR w ok g at_ (nilV hs v) x := by
  unfold Ev.nilV
  split
  · split
    · obtain rfl := h.sc_inv
      exact .sh _ [] _ (.nil _ none 0)
    · exact h
  · exact h
theorem VRs.nilVs {w : World} {ok : Nat → Nat → Prop} {g : Gh} {at_ : Nat → Path → Option Nat} : ∀ {hs : List Nat} {vs : List V} {xs : List Value}, VRs w ok g at_ vs xs → VRs w ok g at_ (nilVs hs vs) xs
  | hs, [], xs, h => h
  | hs, v :: vs, [], h => by have := h.1; simp at this
  | hs, v :: vs, x :: xs, h => by
    have ih := VRs.nilVs (hs := hs.tail) (vs := vs) (xs := xs) ⟨by have := h.1; simpa using this, fun k u y hu hy => h.2 (k + 1) u y hu hy⟩
    refine ⟨by unfold Ev.nilVs; simp [ih.1], fun k u y hu hy => ?_⟩
    unfold Ev.nilVs at hu
    cases k with
    | zero =>
      obtain rfl := Option.some.inj hu
      obtain rfl := Option.some.inj hy
      exact (h.2 0 v x rfl rfl).nilV
    | succ k => exact ih.2 k u y hu hy
theorem VR.nilA {w : World} {ok : Nat → Nat → Prop} {g : Gh} {at_ : Nat → Path → Option Nat} {hs : List Nat} {v : V} {x : Value} (h : VR w ok g at_ v x) : VR w ok g at_ (nilA hs v) x := by
  unfold Ev.nilA
  split
  · cases h with
    | agg vs xs hl hx =>
      obtain ⟨h1, h2⟩ := VRs.nilVs (hs := hs) ⟨hl, hx⟩
      exact .agg _ xs h1 h2
  · exact h.nilV

section
variable {β : Base} {s : St} {a : Act} {w : World} {g : Gh} {pm : Nat → Nat → Option (Nat × Path)} {C : Cx} {n : Nat}

/-- Cells that always hold what they held. -/
def GlOk (β : Base) (gl : List (Addr × Option Value)) : Prop := ∀ a v, (a, v) ∈ gl → ∃ b o, a = ⟨b, o, none⟩ ∧ b < β.w0.heap.size ∧ β.w0.cell? ⟨b, o, none⟩ = v ∧ β.pm0 b o = none
theorem R.gl {gl : List (Addr × Option Value)} (h : R β s a w g pm) (hg : GlOk β gl) {ad : Addr} {v : Option Value} (hm : (ad, v) ∈ gl) : ∃ b o, ad = ⟨b, o, none⟩ ∧ b < w.heap.size ∧ w.cell? ⟨b, o, none⟩ = v ∧ pm b o = none := by
  obtain ⟨b, o, h1, hb, h2, h3⟩ := hg ad v hm
  refine ⟨b, o, h1, Nat.lt_of_lt_of_le hb h.keep.size, ?_, ?_⟩
  · rw [(h.keep.cell b o hb h3).1]; exact h2
  · cases e : pm b o with
    | none => rfl
    | some x =>
      rcases h.own b o (by rw [e]; simp) with h4 | h4
      · exact absurd h3 h4
      · omega

theorem callP_ok (h : R β s a w g pm) (hgl : GlOk β C.gl) {gf : Nat} {vals : List V} {xs : List Value} (hv : VRs w (okc β pm) g s.len vals xs) {ms : List Nat} {dst : Option Nat} {K : St → Prop} {after : St → V → (St → V → Prop) → Prop} (he : callP C s gf vals ms dst K after) :
    ∃ G : List Nat, (∀ r, r ∈ G ↔ r ∈ givenR ms 0 vals []) ∧ Calls C.P gf xs.toArray w fun e w' => ∃ x, e = .returned x ∧ ∃ s' v g' pm', R β s' a w' g' pm' ∧ s'.ng = s.ng ∧ VR w' (okc β pm') g' s'.len v x ∧ after s' v (fun s' v => putP s' dst v K) ∧
      (∀ k o, s.obj k = some o → ∃ o', s'.obj k = some o' ∧ o'.shape = o.shape ∧ SameGh g g' k k [] [] ∧ (k ∉ G → o' = o ∧ ∀ p, SameGh g g' k k p p)) ∧
      (∀ b o r p, pm b o = some (r, p) → r ∉ G → w'.cell? ⟨b, o, none⟩ = w.cell? ⟨b, o, none⟩) ∧ Keeps (givPm pm G) w w' := by
  unfold callP at he
  rw [forceL_eq] at he
  dsimp only at he
  generalize hGe : givenR ms 0 vals [] = G at he
  refine ⟨G, fun r => Iff.rfl, ?_⟩
  generalize hLd : lentR ms 0 vals [] = Ld at he
  split at he
  · exact he.elim
  rename_i hc
  rw [Bool.and_eq_true] at hc
  obtain ⟨hG, hmeet⟩ := hc
  have hmeet : meets Ld G = false := by simpa using hmeet
  split at he
  case h_2 => exact he.elim
  rename_i _ obs hobs
  split at he
  case h_2 => exact he.elim
  rename_i _ vs hvs
  rw [forceL_eq, forceL_eq] at he
  obtain ⟨o1, o2⟩ := obsOf_spec hobs
  obtain ⟨a1, a2⟩ := argsL_spec hvs
  have hpos : ∀ (r k : Nat), posOf r G 0 = some k → G[k]? = some r := fun r k hk => by
    obtain ⟨_, h2⟩ := posOf_some hk
    simpa using h2
  have hat : ∀ k r p, G[k]? = some r → (stO (obsO 0 obs)).at k p = s.at r p := fun k r p hk => by
    unfold St.at
    have : (stO (obsO 0 obs)).obj k = s.obj r := by
      show look none (obsO 0 obs) k = _
      rw [look_obsO, if_pos (Nat.zero_le _), (o2 k r hk).1]; rfl
    rw [this]
  have hgk : ∀ k r p, G[k]? = some r → SameGh g (givGh g G) r k p p := fun k r p hk => by
    unfold SameGh givGh; simp only [hk, Option.getD_some]; exact ⟨trivial, trivial, trivial, trivial, trivial⟩
  have up : ∀ b o c, okc β pm b o → w.cell? ⟨b, o, none⟩ = some c → okLd β pm Ld b o ∧ w.cell? ⟨b, o, none⟩ = some c := fun b o c h1 h2 => ⟨.inl h1, h2⟩
  have := he.run w (okLd β pm Ld) (givGh g G) (givPm pm G) xs (by rw [hv.1, a1]) (fun i v' x hi hx => ?_) (fun k p es d m hk => ?_) (fun b o hb => ?_) (fun b o hb => ?_) (fun ad v hm => ?_)
  · refine this.mono (fun e w' hh => ?_)
    obtain ⟨x, rs, obs', rfl, ⟨hcl, hk⟩, hafter⟩ := hh
    rw [forceN_eq] at hk
    obtain ⟨g', pm', hA⟩ := hafter (s.nx + G.length) (by omega)
    have hcl' : Ld = [] ∨ (G = [] ∧ ClR rs) := by
      cases Ld with
      | nil => exact .inl rfl
      | cons => exact .inr hcl
    obtain ⟨r1, r2, r3, r4⟩ := h.called hG o1 (fun k r hk => (o2 k r hk).1) (Nat.le_add_right _ _) (Nat.le_add_left _ _) hA hcl'
    rw [forceSt_eq] at hk
    have hsm := St.caS_eq s G obs' (open3 (s.nx + G.length) rs).2.1 (open3 (s.nx + G.length) rs).2.2
    refine ⟨x, rfl, _, _, _, _, r1.same hsm, hsm.ng, by rw [hsm.len]; exact r2, hk, fun k o hk => ?_, r4, hA.keep⟩
    have hkn : k < s.nx := by
      rcases Nat.lt_or_ge k s.nx with h1 | h1
      · exact h1
      · rw [h.fresh k h1] at hk; cases hk
    rw [hsm.obj]
    have hobj' : (s.called G obs' (open3 (s.nx + G.length) rs).2.1 (open3 (s.nx + G.length) rs).2.2).obj k = look none (givL G obs' ++ ((open3 (s.nx + G.length) rs).2.1 ++ s.ob)) k := rfl
    rw [hobj']
    have hlen' : obs'.length = G.length := hA.len.trans o1
    cases hp : posOf k G 0 with
    | some i =>
      have hi := hpos k i hp
      have hil : i < G.length := (List.getElem?_eq_some_iff.1 hi).1
      have hobi : obs[i]? = some o := by rw [← (o2 i k hi).1]; exact hk
      have ho' := List.getElem?_eq_getElem (show i < obs'.length by omega)
      obtain ⟨t1, t2⟩ := hA.top i o _ hobi ho'
      have hl : look none (givL G obs') k = some obs'[i] := by rw [look_givL k hlen' hG, hp]; exact ho'
      refine ⟨obs'[i], ?_, t2, ?_, fun hn => absurd (posOf_mem hp) hn⟩
      · rw [look_append_some _ _ _ (by rw [hl]; simp)]; exact hl
      · have hw : whr G (s.nx + G.length) k = (i, true) := by unfold whr; rw [hp]
        have h1 := hgk i k [] hi
        have h2 := calGh_new (g := g) (g' := g') hw []
        exact ⟨h2.1.trans (t1.1.trans h1.1), h2.2.1.trans (t1.2.1.trans h1.2.1), h2.2.2.1.trans (t1.2.2.1.trans h1.2.2.1), h2.2.2.2.1.trans (t1.2.2.2.1.trans h1.2.2.2.1), h2.2.2.2.2.trans (t1.2.2.2.2.trans h1.2.2.2.2)⟩
    | none =>
      have hl : look none (givL G obs') k = none := by rw [look_givL k hlen' hG, hp]
      have hl2 : look none (open3 (s.nx + G.length) rs).2.1 k = none := by
        cases e : look none (open3 (s.nx + G.length) rs).2.1 k with
        | none => rfl
        | some o' =>
          have := (hA.rng k (by show look none (open3 (s.nx + G.length) rs).2.1 k ≠ none; rw [e]; simp)).1
          omega
      have hw : whr G (s.nx + G.length) k = (k, false) := by unfold whr; rw [hp]; dsimp only; rw [if_pos (by omega)]
      refine ⟨o, ?_, rfl, calGh_old (g := g) (g' := g') hw [], fun _ => ⟨rfl, fun p => calGh_old hw p⟩⟩
      rw [look_append_none _ _ _ (givL_some G obs') hl, look_append_none _ _ _ (open3_some _ rs) hl2]
      exact hk
  · obtain ⟨v, hvi, hcase⟩ := a2 i v' hi
    have hvx := hv.2 i v x hvi hx
    rw [Nat.zero_add] at hcase
    rcases hcase with ⟨hm, rfl⟩ | ⟨hm, u, hu, rfl⟩
    · have h3 : ren2 (fun r => posOf r G 0) v = ren3 (fun r => posOf r G 0) v ∨ ∃ us, v = .tup us := by
        cases v with
        | tup us => exact .inr ⟨us, rfl⟩
        | _ => exact .inl rfl
      rcases h3 with h3 | ⟨us, rfl⟩
      · rw [h3]
        refine hvx.ren3 up (fun r k p m hk hm => ?_)
        have hgi := hpos r k hk
        refine ⟨?_, hgk k r p hgi⟩
        unfold St.len at hm ⊢
        rw [hat k r p hgi]; exact hm
      · exact .dead _
    · have hlent : Lent β pm (okLd β pm Ld) (roots2 v) := ⟨fun b o hb => .inl hb, fun r hr b o p hb => .inr ⟨r, p, hb, by rw [← hLd]; exact lentR_mem ms vals 0 [] i v r hvi (by rw [Nat.zero_add]; exact hm) hr⟩⟩
      exact ((lend2_ok h hlent hvx hu).bare (fun b o c h1 h2 => ⟨h1, h2⟩)).nilA
  · cases hgi : G[k]? with
    | none =>
      exfalso
      unfold St.at at hk
      have : (stO (obsO 0 obs)).obj k = none := by
        show look none (obsO 0 obs) k = _
        rw [look_obsO, if_pos (Nat.zero_le _)]
        exact List.getElem?_eq_none (by have := List.getElem?_eq_none_iff.1 hgi; omega)
      rw [this] at hk; cases hk
    | some r =>
      rw [hat k r p hgi] at hk
      refine (h.blk r p es d m hk).rename (fun b o c h1 _ => .inl h1) (hgk k r p hgi) (fun b o hb => ?_) (fun i j e v _ _ _ => hgk k r _ hgi)
      unfold givPm
      rw [hb]
      have := (distinct_pos hG k r hgi).2 0
      rw [Nat.zero_add] at this
      dsimp only
      rw [this]; rfl
  · refine h.low b o (fun e => hb ?_)
    unfold givPm; rw [e]
  · rcases hb with hb | ⟨r, p, hb, hr⟩
    · unfold givPm; rw [hb.1]
    · unfold givPm; rw [hb]
      dsimp only
      rw [posOf_none_iff.2 (meets_false hmeet r hr)]; rfl
  · obtain ⟨b, o, h1, hb, h2, h3⟩ := h.gl hgl hm
    exact ⟨b, o, h1, hb, h2, by unfold givPm; rw [h3]⟩
end
end Ev
namespace Ev
open Go Go.RowKit
set_option linter.unusedVariables false
set_option linter.unusedSimpArgs false

theorem Same.refl (s : St) : Same s s := ⟨fun _ => rfl, fun _ => rfl, rfl, rfl, rfl⟩
theorem Same.trans {s s' s'' : St} (h : Same s s') (h' : Same s' s'') : Same s s'' := ⟨fun t => (h'.get t).trans (h.get t), fun r => (h'.obj r).trans (h.obj r), h'.nx.trans h.nx, h'.fz.trans h.fz, h'.ng.trans h.ng⟩
theorem Same.newO {s s' : St} (h : Same s s') (o : Ob) : Same (s.newOb o) (s'.newO o) := by
  have h1 := St.newO_eq s' o
  refine ⟨fun t => (h1.get t).trans (h.get t), fun r => (h1.obj r).trans ?_, h1.nx.trans (congrArg (· + 1) h.nx), h1.fz.trans h.fz, h1.ng.trans h.ng⟩
  show look none ((s'.nx, some o) :: s'.ob) r = look none ((s.nx, some o) :: s.ob) r
  rw [look_cons, look_cons, h.nx]
  have := h.obj r
  unfold St.obj at this
  rw [this]
theorem St.putOb_congr {s : St} {r : Nat} {p : Path} {es : List (List V)} {d : Bool} {m : Nat} (hat : s.at r p = some (es, d, m)) {f f' : List (List V) → List (List V)} (hf : f es = f' es) : Same (s.putOb r p f) (s.putOb r p f') := by
  refine ⟨fun t => by rw [putOb_get, putOb_get], fun q => ?_, by rw [(St.putOb_tm _ _ _ _).2.1, (St.putOb_tm _ _ _ _).2.1], by rw [(St.putOb_tm _ _ _ _).2.2, (St.putOb_tm _ _ _ _).2.2], by rw [St.putOb_ng, St.putOb_ng]⟩
  by_cases e : q = r
  · subst e
    unfold St.at at hat
    cases ho : s.obj q with
    | none => rw [ho] at hat; cases hat
    | some o =>
      rw [ho] at hat
      rw [putOb_obj ho, putOb_obj ho, putAt_congr hat hf]
  · rw [putOb_obj_ne e, putOb_obj_ne e]
theorem setAt_eq {es : List (List V)} {i j : Nat} {e : List V} {v : V} (he : es[i]? = some e) : setAt i j v es = es.set i (e.set j v) := by
  unfold setAt; rw [he]
theorem splitL_spec : ∀ {p q : Path} {y : Nat × Nat}, splitL p = some (q, y) → p = q ++ [y]
  | [], q, y, h => by cases h
  | [x], q, y, h => by
    simp only [splitL, Option.some.injEq, Prod.mk.injEq] at h
    obtain ⟨rfl, rfl⟩ := h; rfl
  | x :: x' :: p, q, y, h => by
    unfold splitL at h
    split at h
    · rename_i q' y' e
      simp only [Option.some.injEq, Prod.mk.injEq] at h
      obtain ⟨rfl, rfl⟩ := h
      rw [splitL_spec e]; rfl
    · cases h
theorem nested_spec {s : St} {ms : List Nat} : ∀ {vs : List V} {k k' r i j : Nat} {p : Path}, nested s ms k vs = some (k', r, p, i, j) → k ≤ k' ∧ vs[k' - k]? = some (.hdr r (p ++ [(i, j)])) ∧ modeAt ms k' = 1
  | [], k, k', r, i, j, p, h => by cases h
  | v :: vs, k, k', r, i, j, p, h => by
    have next : nested s ms (k + 1) vs = some (k', r, p, i, j) → k ≤ k' ∧ (v :: vs)[k' - k]? = some (.hdr r (p ++ [(i, j)])) ∧ modeAt ms k' = 1 := fun h => by
      obtain ⟨h1, h2, h3⟩ := nested_spec h
      refine ⟨by omega, ?_, h3⟩
      rw [show k' - k = (k' - (k + 1)) + 1 by omega]; exact h2
    unfold nested at h
    split at h
    · rename_i hm
      split at h
      · split at h
        · rename_i r0 p0 p1 i1 j1 e
          simp only [Option.some.injEq, Prod.mk.injEq] at h
          obtain ⟨rfl, rfl, rfl, rfl, rfl⟩ := h
          rw [splitL_spec e, Nat.sub_self]
          exact ⟨Nat.le_refl _, rfl, hm⟩
        · exact next h
      · exact next h
    · exact next h
theorem givenR_sub (ms : List Nat) : ∀ (vs : List V) (k : Nat) (L : List Nat) (r : Nat), r ∈ L → r ∈ givenR ms k vs L
  | [], k, L, r, h => h
  | v :: vs, k, L, r, h => by
    unfold givenR
    split
    · exact givenR_sub ms vs (k + 1) _ r (addR_sub _ _ r h)
    · exact givenR_sub ms vs (k + 1) L r h
theorem givenR_mem (ms : List Nat) : ∀ (vs : List V) (k : Nat) (L : List Nat) (i : Nat) (v : V) (r : Nat), vs[i]? = some v → modeAt ms (k + i) = 1 → r ∈ roots2 v → r ∈ givenR ms k vs L
  | [], k, L, i, v, r, h, hm, hr => by simp at h
  | u :: vs, k, L, i, v, r, h, hm, hr => by
    unfold givenR
    cases i with
    | zero =>
      obtain rfl := Option.some.inj (show some u = some v from h)
      split
      · exact givenR_sub ms vs (k + 1) _ r (addR_mem _ _ r hr)
      · rename_i e; exact absurd hm e
    | succ i =>
      have h : vs[i]? = some v := h
      rw [show k + (i + 1) = k + 1 + i by omega] at hm
      split
      · exact givenR_mem ms vs (k + 1) _ i v r h hm hr
      · exact givenR_mem ms vs (k + 1) L i v r h hm hr

theorem run_call {P : Program} {f : Nat} (h : Callable P f) (xs caps : Array Value) (ops : Operand → Value) (c : Call) (F : Operand) (hc : c.callee = .value F) (hF : ops F = .func (.func f) #[] caps) (hx : c.args.map ops = xs) (t : TypeId) (w : World) :
    (do let d ← resolve ops c t; invoke d.target d.args : Sem Next).run P w = .ok (.enter f (xs ++ caps)) w := by
  obtain ⟨fn, h1, h2, h3⟩ := h
  have hb : fn.body.isNone = false := by cases e : fn.body with
    | none => rw [e] at h2; cases h2
    | some b => rfl
  have h3' : ¬ fn.name = "runtime.NumGoroutine" := by simpa using h3
  have h4 : ¬ fn.body = none := by cases e : fn.body with
    | none => rw [e] at h2; cases h2
    | some b => simp
  simp [resolve, hc, hF, Deferred.ofValue, hx, invoke, callFunc, h1, hb]
  rw [if_neg h3', if_neg h4]
theorem args_map (ρ : Operand → Value) (c : Call) : c.args.map ρ = (c.args.toList.map ρ).toArray := by
  apply Array.ext'
  simp
theorem wp_value {C : Cx} {a : Act} {w : World} {Q : Exit → Act → World → Prop} {next : Act → World → Prop} {o : Oper} {z : Value} {w' : World} (hr : (execOp a.eval o).run C.P w = .ok (.value z) w') (h : next (a.put o.dst z) w') : o.wp C.P a w next Q := by
  unfold Oper.wp
  rw [hr, Oper.upon_value]
  exact h
theorem wp_enter {C : Cx} {a : Act} {w : World} {Q : Exit → Act → World → Prop} {next : Act → World → Prop} {o : Oper} {f : Nat} {xs : Array Value} {w' : World} (hr : (execOp a.eval o).run C.P w = .ok (.enter f xs) w') (h : Calls C.P f xs w' fun e w'' => ∃ x, e = .returned x ∧ next (a.put o.dst x) w'') : o.wp C.P a w next Q := by
  unfold Oper.wp
  rw [hr, Oper.upon_enter]
  refine h.mono (fun e w'' hh => ?_)
  obtain ⟨x, rfl, hh⟩ := hh
  exact hh

section
variable {β : Base} {s : St} {a : Act} {w : World} {g : Gh} {pm : Nat → Nat → Option (Nat × Path)} {C : Cx} {n : Nat}

theorem R.opds (h : R β s a w g pm) (xs : List Operand) : VRs w (okc β pm) g s.len (xs.map s.opd) (xs.map a.eval) := ⟨by simp, fun k v x hv hx => by
  rw [List.getElem?_map] at hv hx
  cases e : xs[k]? with
  | none => rw [e] at hv; cases hv
  | some y =>
    rw [e] at hv hx
    obtain rfl := Option.some.inj hv
    obtain rfl := Option.some.inj hx
    exact h.opd y⟩
theorem VRs.append {ok : Nat → Nat → Prop} {at_ : Nat → Path → Option Nat} {vs us : List V} {xs ys : List Value} (h : VRs w ok g at_ vs xs) (h' : VRs w ok g at_ us ys) : VRs w ok g at_ (vs ++ us) (xs ++ ys) := ⟨by simp [h.1, h'.1], fun k v x hv hx => by
  rw [List.getElem?_append] at hv hx
  rw [h.1] at hx
  split at hv
  · rename_i hlt; rw [if_pos hlt] at hx; exact h.2 k v x hv hx
  · rename_i hlt; rw [if_neg hlt] at hx; exact h'.2 _ v x hv hx⟩
theorem VRs.setL {ok : Nat → Nat → Prop} {at_ : Nat → Path → Option Nat} {vs : List V} {xs : List Value} (h : VRs w ok g at_ vs xs) {k : Nat} {v : V} (hv : ∀ x, xs[k]? = some x → VR w ok g at_ v x) : VRs w ok g at_ (vs.set k v) xs := ⟨by simp [h.1], fun i u x hu hx => by
  rw [List.getElem?_set] at hu
  by_cases e : k = i
  · subst e
    rw [if_pos rfl] at hu
    split at hu
    · obtain rfl := Option.some.inj hu; exact hv x hx
    · cases hu
  · rw [if_neg e] at hu; exact h.2 i u x hu hx⟩
theorem R.vals (h : R β s a w g pm) {f : Operand} {gf : Nat} {caps : List V} (hf : s.opd f = .fn gf caps) (xs : List Operand) : ∃ cxs : List Value, a.eval f = .func (.func gf) #[] cxs.toArray ∧ VRs w (okc β pm) g s.len (xs.map s.opd ++ caps) (xs.map a.eval ++ cxs) := by
  have hF := h.opd f
  rw [hf] at hF
  generalize a.eval f = fv at *
  cases hF with
  | fn _ _ cxs hl hx => exact ⟨cxs, rfl, (h.opds xs).append ⟨hl, hx⟩⟩

theorem evCallP_ok (ok : CxOk C) (hgl : GlOk β C.gl) (h : Is β n s a w) {o : Oper} {c : Call} {F : Operand} (hop : o.op = .call c) (hc : c.callee = .value F) {K : St → Prop} (he : evCallP C s F c.args.toList o.dst K)
    {Q : Exit → Act → World → Prop} {next : Act → World → Prop} (hn : ∀ a' w', Now β n a' w' K → next a' w') : o.wp C.P a w next Q := by
  unfold evCallP at he
  split at he
  case h_2 => exact he.elim
  rename_i _ gf _ _
  split at he
  case h_2 => exact he.elim
  rename_i hfs
  dsimp only at he
  rw [forceSt_eq] at he
  have h := Is.prepS F c.args.toList (C.mp gf) 0 h
  generalize prepS F c.args.toList (C.mp gf) 0 s = s1 at *
  obtain ⟨hng, g, pm, hR⟩ := h
  split at he
  case h_2 => exact he.elim
  rename_i _ g' caps hf
  split at he
  case h_2 => exact he.elim
  rename_i hg
  obtain rfl : g' = gf := Nat.eq_of_beq_eq_true hg
  obtain ⟨cxs, hF, hvs⟩ := hR.vals hf c.args.toList
  have hrun : (execOp a.eval o).run C.P w = .ok (.enter g' ((c.args.toList.map a.eval).toArray ++ cxs.toArray)) w := by
    obtain ⟨dst, op, type, pos, after, guard⟩ := o
    dsimp only at hop
    subst hop
    unfold execOp
    exact run_call (ok.fs _ hfs) _ _ a.eval c F hc hF (args_map a.eval c) type w
  refine wp_enter hrun ?_
  rw [show (c.args.toList.map a.eval).toArray ++ cxs.toArray = (c.args.toList.map a.eval ++ cxs).toArray by simp]
  split at he
  · obtain ⟨G, hG, hcalls⟩ := callP_ok hR hgl hvs he
    refine hcalls.mono (fun e w' hh => ?_)
    obtain ⟨x, rfl, s', v, g', pm', r1, r2, r3, r4, _⟩ := hh
    exact ⟨x, rfl, hn _ _ (putP_ok r1 (r2.trans hng) r3 r4)⟩
  · rename_i _ k r p i j hnest
    obtain ⟨_, hnk, hnm⟩ := nested_spec hnest
    rw [Nat.sub_zero] at hnk
    obtain ⟨es, d, m, hat, he⟩ := atP_some he
    obtain ⟨e, hei, he⟩ := optP_some he
    split at he
    case h_2 => exact he.elim
    rename_i _ u hu
    split at he
    case h_2 => exact he.elim
    rename_i _ oo hoo
    rw [forceN_eq, forceSt_eq] at he
    obtain ⟨hD, hDV, hDH⟩ := hR.detach hat hei hu hoo
    have hat1 : (s1.clear u r p j).at r p = some (es, d, m) := by
      unfold St.at St.obj; rw [(s1.clear_ob u r p j).1]; exact hat
    have hsm : Same (((s1.clear u r p j).putOb r p (setAt i j .dead)).newOb oo) (((s1.clS u r p j).putO r p fun es => es.set i (e.set j .dead)).newO oo) := by
      rw [St.clS_eq]
      exact Same.newO ((St.putOb_congr hat1 (setAt_eq hei)).trans (St.putO_eq _ r p _)) oo
    have hD2 := hD.same hsm
    have hnx1 : ((s1.clear u r p j).putOb r p (setAt i j .dead)).nx = s1.nx := by rw [(St.putOb_tm _ _ _ _).2.1, (s1.clear_ob u r p j).2.1]
    have hng1 : (((s1.clear u r p j).putOb r p (setAt i j .dead)).newOb oo).ng = s1.ng := by
      show ((s1.clear u r p j).putOb r p (setAt i j .dead)).ng = _
      rw [St.putOb_ng, St.clear_ng]
    have hoq1 : (((s1.clear u r p j).putOb r p (setAt i j .dead)).newOb oo).obj s1.nx = some oo := by
      show look none ((((s1.clear u r p j).putOb r p (setAt i j .dead)).nx, some oo) :: _) s1.nx = _
      rw [look_cons, if_pos hnx1]
    have hrobj : ∃ ro, s1.obj r = some ro := by
      unfold St.at at hat
      cases ho : s1.obj r with
      | none => rw [ho] at hat; cases hat
      | some o => exact ⟨o, rfl⟩
    obtain ⟨ro, hro⟩ := hrobj
    have hrnx : r < s1.nx := by
      rcases Nat.lt_or_ge r s1.nx with h1 | h1
      · exact h1
      · rw [hR.fresh r h1] at hro; cases hro
    -- the cell of the slice
    obtain ⟨cc, hcc, hcr⟩ := (hR.blk r p es d m hat).cell i j e u hei hu
    obtain ⟨_, _, _, hmine⟩ := hR.place hat hei hu
    have hcRef : RefHdr g r (p ++ [(i, j)]) 0 oo.es.length cc := by
      cases u with
      | own d' n' es' => simp only [ownIn, Option.some.injEq] at hoo; subst hoo; exact hcr
      | sl n' es' =>
        cases d with
        | true => simp only [ownIn, Option.some.injEq] at hoo; subst hoo; exact hcr
        | false => simp [ownIn] at hoo
      | _ => simp [ownIn] at hoo
    have hcRef1 := hDH cc hcRef
    generalize hs2 : ((s1.clS u r p j).putO r p fun es => es.set i (e.set j .dead)).newO oo = s2 at *
    split at he
    case h_2 => exact he.elim
    rename_i _ g2 caps2 hf2
    split at he
    case h_2 => exact he.elim
    rename_i hg2
    obtain rfl : g2 = g' := Nat.eq_of_beq_eq_true hg2
    split at he
    case h_1 => exact he.elim
    rename_i hmeets
    obtain ⟨cxs2, hF2, hvs2⟩ := hD2.vals hf2 c.args.toList
    have hcx : cxs2 = cxs := by
      rw [hF] at hF2
      injection hF2 with _ _ h3
      have := congrArg Array.toList h3
      simpa using this.symm
    subst hcx
    have hlen2 : s2.len s1.nx [] = some oo.es.length := by
      rw [hsm.len]; unfold St.len St.at; rw [hoq1]; rfl
    have hvs3 := hvs2.setL (k := k) (v := .hdr s1.nx []) (fun x hx => by
      have hvx := hvs.2 k _ x hnk hx
      cases hvx with
      | hdr _ _ l c hl hc =>
        have : l = oo.es.length := by
          unfold St.len at hl
          rw [St.at_snoc hat] at hl
          simp only [sub, hei, hu] at hl
          cases u with
          | own d' n' es' => simp only [ownIn, Option.some.injEq] at hoo; subst hoo; exact (Option.some.inj hl).symm
          | sl n' es' =>
            cases d with
            | true => simp only [ownIn, Option.some.injEq] at hoo; subst hoo; exact (Option.some.inj hl).symm
            | false => simp [ownIn] at hoo
          | _ => simp [ownIn] at hoo
        subst this
        exact .hdr s1.nx [] _ _ hlen2 (hDH _ hc))
    obtain ⟨G, hG, hcalls⟩ := callP_ok hD2 hgl hvs3 he
    have hrG : r ∉ G := fun hr => meets_false hmeets r (List.mem_singleton.2 rfl) ((hG r).1 hr)
    have hqr : s1.nx ≠ r := by omega
    refine hcalls.mono (fun e w' hh => ?_)
    obtain ⟨x, rfl, s3, v, g3, pm3, r1, r2, r3, r4, r5, r6, _⟩ := hh
    refine ⟨x, rfl, hn _ _ ?_⟩
    obtain ⟨es3, d3, m3, hat3, r4⟩ := atP_some r4
    obtain ⟨e3, hei3, r4⟩ := optP_some r4
    split at r4
    case h_2 => exact r4.elim
    rename_i _ hu3
    split at r4
    case h_2 => exact r4.elim
    rename_i _ oq hoq
    split at r4
    case h_2 => exact r4.elim
    rename_i _ o3 ho3
    split at r4
    case h_2 => exact r4.elim
    rename_i _ X hX
    rw [forceSt_eq] at r4
    obtain ⟨oq', q1, q2, q3, _⟩ := r5 s1.nx oo (by rw [hsm.obj]; exact hoq1)
    rw [hoq] at q1
    obtain rfl := Option.some.inj q1
    have hlq : oq.es.length = oo.es.length := by
      have := congrArg (fun x => x.2.2.2) q2; exact this
    have hro2 : ∃ ro2, s2.obj r = some ro2 := by
      rw [hsm.obj]
      refine ⟨{ ro with es := putAt (setAt i j .dead) ro.es p }, ?_⟩
      · show look none ((((s1.clear u r p j).putOb r p (setAt i j .dead)).nx, some oo) :: _) r = some { ro with es := putAt (setAt i j .dead) ro.es p }
        rw [look_cons, if_neg (by rw [hnx1]; exact hqr)]
        refine putOb_obj (o := ro) ?_
        unfold St.obj; rw [(s1.clear_ob u r p j).1]; exact hro
    obtain ⟨ro2, hro2⟩ := hro2
    obtain ⟨_, _, _, _, q4⟩ := r5 r ro2 hro2
    obtain ⟨_, q5⟩ := q4 hrG
    have hS1 : SameGh g (detGh g r (p ++ [(i, j)]) s1.nx) r r p p := detGh_else g r _ p (fun e => hqr e.symm)
    have hS2 := q5 p
    have hS : SameGh g g3 r r p p := ⟨hS2.1.trans hS1.1, hS2.2.1.trans hS1.2.1, hS2.2.2.1.trans hS1.2.2.1, hS2.2.2.2.1.trans hS1.2.2.2.1, hS2.2.2.2.2.trans hS1.2.2.2.2⟩
    obtain ⟨hA, hAV⟩ := r1.adopt hat3 hei3 hu3 hoq hqr (by rw [r2]; rw [hsm.ng, hng1]; exact hR.ngnx) (c := cc) (by
      rw [hS.1, hS.2.1, hS.2.2.1]
      have hpm : detPm pm r (p ++ [(i, j)]) s1.nx (g.blk r p) (g.off r p + i * g.sz r p + j) = some (r, p) := by
        unfold detPm
        rw [hmine.1]
        dsimp only
        rw [if_pos rfl]
        cases hst : strip (p ++ [(i, j)]) p with
        | none => rfl
        | some q2 =>
          have := congrArg List.length (strip_some hst)
          simp at this
      rw [r6 _ _ r p hpm hrG]; exact hcc) (by rw [hlq]; exact hcRef1.same q3) (formOf_ok hX)
    have hsm3 : Same (((s3.movT s1.nx r (p ++ [(i, j)])).dropOb s1.nx).putOb r p (setAt i j X)) ((s3.moS s1.nx r (p ++ [(i, j)])).putO r p fun es => es.set i (e3.set j X)) := by
      have hat4 : ((s3.movT s1.nx r (p ++ [(i, j)])).dropOb s1.nx).at r p = some (es3, d3, m3) := by
        unfold St.at St.obj St.dropOb St.movT
        dsimp only
        rw [look_cons, if_neg hqr]
        exact hat3
      exact (St.putOb_congr hat4 (setAt_eq hei3)).trans ((St.moS_eq s3 s1.nx r (p ++ [(i, j)])).put r p _)
    have hng3 : (((s3.movT s1.nx r (p ++ [(i, j)])).dropOb s1.nx).putOb r p (setAt i j X)).ng = n := by
      rw [St.putOb_ng]
      show s3.ng = n
      rw [r2, hsm.ng, hng1]; exact hng
    exact putP_ok (hA.same hsm3) (hsm3.ng.trans hng3) (by rw [hsm3.len]; exact hAV _ _ r3) r4

/-- Nothing is given. -/
def noGiven (ms : List Nat) : Bool := allB (fun m => !Nat.beq m 1) ms
theorem noGiven_at {ms : List Nat} (h : noGiven ms = true) (k : Nat) : modeAt ms k ≠ 1 := fun e => by
  unfold modeAt at e
  rw [List.getD_eq_getElem?_getD] at e
  cases hk : ms[k]? with
  | none => rw [hk] at e; cases e
  | some m =>
    rw [hk] at e
    have := allB_all h m (List.mem_of_getElem? hk)
    have e : m = 1 := e
    rw [e] at this; cases this
theorem givenR_none {ms : List Nat} (h : noGiven ms = true) : ∀ (vs : List V) (k : Nat) (L : List Nat), givenR ms k vs L = L
  | [], k, L => rfl
  | v :: vs, k, L => by
    unfold givenR
    split
    · rename_i e; exact absurd e (noGiven_at h k)
    · exact givenR_none h vs (k + 1) L
theorem nested_none {ms : List Nat} (h : noGiven ms = true) (s : St) : ∀ (vs : List V) (k : Nat), nested s ms k vs = none
  | [], k => rfl
  | v :: vs, k => by
    unfold nested
    split
    · rename_i e; exact absurd e (noGiven_at h k)
    · exact nested_none h s vs (k + 1)
/-- A world that only grew. -/
def Grew (w w' : World) : Prop := Keeps (fun _ _ => none) w w'
theorem evCallQ_ok (ok : CxOk C) (hgl : GlOk β C.gl) (h : Is β n s a w) {o : Oper} {c : Call} {F : Operand} (hop : o.op = .call c) (hc : c.callee = .value F) {K : St → Prop} (he : evCallP C s F c.args.toList o.dst K) {gf : Nat} {cs : List V} (hf0 : s.opd F = .fn gf cs) (hq : noGiven (C.md gf) = true)
    {Q : Exit → Act → World → Prop} {next : Act → World → Prop} (hn : ∀ x w', Now β n (a.put o.dst x) w' K → Grew w w' → next (a.put o.dst x) w') : o.wp C.P a w next Q := by
  unfold evCallP at he
  rw [hf0] at he
  dsimp only at he
  split at he
  case h_2 => exact he.elim
  rename_i hfs
  rw [forceSt_eq] at he
  have h := Is.prepS F c.args.toList (C.mp gf) 0 h
  generalize prepS F c.args.toList (C.mp gf) 0 s = s1 at *
  obtain ⟨hng, g, pm, hR⟩ := h
  split at he
  case h_2 => exact he.elim
  rename_i _ g' caps hf
  split at he
  case h_2 => exact he.elim
  rename_i hg
  obtain rfl : g' = gf := Nat.eq_of_beq_eq_true hg
  obtain ⟨cxs, hF, hvs⟩ := hR.vals hf c.args.toList
  have hrun : (execOp a.eval o).run C.P w = .ok (.enter g' ((c.args.toList.map a.eval).toArray ++ cxs.toArray)) w := by
    obtain ⟨dst, op, type, pos, after, guard⟩ := o
    dsimp only at hop
    subst hop
    unfold execOp
    exact run_call (ok.fs _ hfs) _ _ a.eval c F hc hF (args_map a.eval c) type w
  refine wp_enter hrun ?_
  rw [show (c.args.toList.map a.eval).toArray ++ cxs.toArray = (c.args.toList.map a.eval ++ cxs).toArray by simp]
  rw [nested_none hq] at he
  obtain ⟨G, hG, hcalls⟩ := callP_ok hR hgl hvs he
  refine hcalls.mono (fun e w' hh => ?_)
  obtain ⟨x, rfl, s', v, g', pm', r1, r2, r3, r4, _, _, r7⟩ := hh
  have hG0 : G = [] := by
    cases G with
    | nil => rfl
    | cons r G => have := (hG r).1 (List.mem_cons_self ..); rw [givenR_none hq] at this; cases this
  subst hG0
  refine ⟨x, rfl, hn _ _ (putP_ok r1 (r2.trans hng) r3 r4) ?_⟩
  have : givPm pm [] = fun _ _ => none := by
    funext b o
    unfold givPm
    cases pm b o <;> rfl
  rw [this] at r7; exact r7
end
end Ev
namespace Ev
open Go Go.RowKit
set_option linter.unusedVariables false
set_option linter.unusedSimpArgs false
section
variable {β : Base} {s : St} {a : Act} {w : World} {g : Gh} {pm : Nat → Nat → Option (Nat × Path)} {C : Cx} {n : Nat}

theorem opP_ok (ok : CxOk C) (hgl : GlOk β C.gl) (h : Is β n s a w) {o : Oper} {K : St → Prop} (he : opP C s o K) {Q : Exit → Act → World → Prop} {next : Act → World → Prop} (hn : ∀ a' w', Now β n a' w' K → next a' w') : o.wp C.P a w next Q := by
  have quiet : (pureP C s o fun v => putP s o.dst v K) → o.wp C.P a w next Q := fun he => by
    obtain ⟨hng, g, pm, hR⟩ := h
    obtain ⟨v, z, h1, h2, h3⟩ := pureP_ok ok hR he
    exact wp_value (h1 w (Kp.refl w)) (hn _ _ (putP_ok hR hng h2 h3))
  unfold opP at he
  split at he
  · rename_i t x hop
    obtain ⟨z, w', h1, h2, _⟩ := boxP_ok h he
    obtain ⟨dst, op, type, pos, after, guard⟩ := o
    dsimp only at hop he h2
    subst hop
    exact wp_value (z := z) (w' := w') (by unfold execOp; simp [h1]) (hn _ _ h2)
  · rename_i t hop
    obtain ⟨z, w', h1, h2, _⟩ := allocP_ok ok h he
    obtain ⟨dst, op, type, pos, after, guard⟩ := o
    dsimp only at hop he h2
    subst hop
    exact wp_value (z := z) (w' := w') (by unfold execOp; simp [h1]) (hn _ _ h2)
  · rename_i t p x hop
    obtain ⟨w', h1, h2⟩ := storeP_ok ok h he
    obtain ⟨dst, op, type, pos, after, guard⟩ := o
    dsimp only at hop he h2
    subst hop
    unfold Oper.wp
    rw [show (execOp a.eval ⟨dst, .store t p x, type, pos, after, guard⟩).run C.P w = .ok .skip w' by unfold execOp; simp [h1], Oper.upon_skip]
    exact hn _ _ h2
  · rename_i t l c hop
    obtain ⟨z, w', h1, h2⟩ := makeP_ok ok h (fun g pm hR => hR.opd l) (fun g pm hR => hR.opd c) he
    obtain ⟨dst, op, type, pos, after, guard⟩ := o
    dsimp only at hop he h2
    subst hop
    exact wp_value (z := z) (w' := w') (by unfold execOp; simp [h1]) (hn _ _ h2)
  · rename_i t len ps hop
    obtain ⟨z, w', h1, h2, _⟩ := buildSliceP_ok ok h he
    obtain ⟨dst, op, type, pos, after, guard⟩ := o
    dsimp only at hop he h2
    subst hop
    exact wp_value (z := z) (w' := w') (by unfold execOp; simp [h1]) (hn _ _ h2)
  · rename_i c hop
    split at he
    · rename_i F hc
      exact evCallP_ok ok hgl h hop hc he hn
    · rename_i hc
      split at he
      case h_2 => exact he.elim
      rename_i x y t u e1 e2
      obtain ⟨dst, op, type, pos, after, guard⟩ := o
      dsimp only at hop he hn
      subst hop
      obtain ⟨z, w', h1, h2⟩ := appendP_ok (ty := type) ok h he
      obtain ⟨callee, args, argTypes⟩ := c
      dsimp only at hc e1 e2
      subst hc
      obtain rfl : args = #[x, y] := by cases args; simpa using e1
      obtain rfl : argTypes = #[t, u] := by cases argTypes; simpa using e2
      refine wp_value (z := z) (w' := w') ?_ (hn _ _ h2)
      unfold execOp
      simp [resolve, invoke, builtin, h1]
    · exact quiet he
  · exact quiet he

theorem yielded_eq (ops : Array Oper) (tm : Array Value) (j : Nat) : yielded ops tm j = (match ((ops[j]?).bind (·.dst)).bind (tm[·]?) with | some (.bool b) => some b | _ => none) := rfl
theorem dstAt_bind (ops : Array Oper) (j : Nat) : dstAt ops.toList j = (ops[j]?).bind (·.dst) := by
  unfold dstAt
  rw [show ops.toList[j]? = ops[j]? by simp]
  cases ops[j]? <;> rfl

theorem putP_any (h : R β s a w g pm) (hn : s.ng = n) {t : Nat} {x : Value} {K : St → Prop} (hx : a.tmps.getD t undef = x) (he : putP s (some t) (.sc x) K) : Now β n a w K := by
  obtain ⟨tm, ob, nx, fz, ng⟩ := s
  unfold putP at he
  dsimp only at he
  split at he
  case h_2 => exact he.elim
  rw [forceV_eq] at he
  refine ⟨⟨(t, .sc x) :: tm, ob, nx, fz, ng⟩, ⟨hn, g, pm, h.temps h.defers h.fsz (fun u => ?_) (fun _ => rfl) rfl rfl⟩, he⟩
  show VR w _ _ _ (look .dead ((t, V.sc x) :: tm) u) _
  rw [look_cons]
  by_cases e : t = u
  · subst e; rw [if_pos rfl, hx]; exact .sc _
  · rw [if_neg e]; exact h.tm u

theorem guardP_ok {ops : Array Oper} (h : Is β n s a w) {o : Oper} {A B : St → Prop} (he : guardP ops.toList s o A B) : (Region.wanted o (yielded ops a.tmps) = true ∧ Now β n a w A) ∨ (Region.wanted o (yielded ops a.tmps) = false ∧ Now β n a w B) := by
  unfold guardP at he
  unfold Region.wanted
  split at he
  · rename_i hg; rw [hg]; exact .inl ⟨rfl, s, h, he⟩
  · rename_i j want hg
    rw [hg]
    dsimp only
    split at he
    case h_2 => exact he.elim
    rename_i _ t hd
    rw [dstAt_bind] at hd
    obtain ⟨hng, g, pm, hR⟩ := h
    have htm := hR.tm t
    split at he
    case h_2 => exact he.elim
    rename_i _ x hx
    rw [hx] at htm
    have htx := htm.sc_inv
    have hy : yielded ops a.tmps j = (match a.tmps[t]? with | some (.bool b) => some b | _ => none) := by rw [yielded_eq, hd]; rfl
    have hgd : ∀ c, a.tmps[t]? = some c → a.tmps.getD t undef = c := fun c hc => by rw [Array.getD_eq_getD_getElem?, hc]; rfl
    split at he
    case h_3 => exact he.elim
    · rename_i b
      have hyb : yielded ops a.tmps j = some b := by
        rw [hy]
        cases hc : a.tmps[t]? with
        | none => rw [Array.getD_eq_getD_getElem?, hc] at htx; cases htx
        | some c => rw [hgd c hc] at htx; subst htx; rfl
      rw [hyb]
      unfold ifP at he
      cases b with
      | true =>
        cases want with
        | true => exact .inl ⟨rfl, putP_any hR hng htx he⟩
        | false => exact .inr ⟨rfl, putP_any hR hng htx he⟩
      | false =>
        cases want with
        | true => exact .inr ⟨rfl, putP_any hR hng htx he⟩
        | false => exact .inl ⟨rfl, putP_any hR hng htx he⟩
    · rename_i cs
      have hyn : yielded ops a.tmps j = none := by
        rw [hy]
        cases hc : a.tmps[t]? with
        | none => rfl
        | some c => rw [hgd c hc] at htx; subst htx; rfl
      rw [hyn]
      exact .inr ⟨rfl, s, ⟨hng, g, pm, hR⟩, he⟩

theorem opsP_ok (ok : CxOk C) (hgl : GlOk β C.gl) {ops : Array Oper} {Q : Exit → Act → World → Prop} {K : St → Prop} (hQ : ∀ a' w', Now β n a' w' K → Q .normal a' w') : ∀ (l : List Oper) (i : Nat) (s : St) (a : Act) (w : World), (∀ k, l[k]? = ops[i + k]?) → opsP C ops.toList l s K → Is β n s a w →
    wpOps C.P ops Q (List.range' i l.length) a w
  | [], i, s, a, w, hl, he, h => hQ a w ⟨s, h, he⟩
  | o :: l, i, s, a, w, hl, he, h => by
    have ho : ops[i]? = some o := by have := hl 0; rw [Nat.add_zero] at this; exact this.symm
    have hl' : ∀ k, l[k]? = ops[i + 1 + k]? := fun k => by rw [show i + 1 + k = i + (k + 1) by omega, ← hl (k + 1)]; rfl
    unfold opsP at he
    rw [List.length_cons, List.range'_succ]
    unfold wpOps
    rw [ho]
    dsimp only
    rcases guardP_ok h he with ⟨hw, s1, h1, he⟩ | ⟨hw, s1, h1, he⟩
    · rw [if_pos hw]
      exact .inl (opP_ok ok hgl h1 he (fun a' w' ⟨s', h', he'⟩ => opsP_ok ok hgl hQ l (i + 1) s' a' w' hl' he' h'))
    · rw [if_neg (by rw [hw]; simp)]
      obtain ⟨hng, g, pm, hR⟩ := h1
      obtain ⟨s', h', he'⟩ := putP_ok hR hng (z := undef) (.sc _) he
      exact opsP_ok ok hgl hQ l (i + 1) s' _ w hl' he' h'

-- less is known
theorem restr_get : ∀ (l : List Nat) (tm : List (Nat × V)) (t : Nat), look .dead (restr l tm) t = .dead ∨ look .dead (restr l tm) t = look .dead tm t
  | [], tm, t => .inl rfl
  | u :: l, tm, t => by
    unfold restr
    split
    · exact restr_get l tm t
    · rw [look_cons]
      by_cases e : u = t
      · rw [if_pos e, e]; exact .inr rfl
      · rw [if_neg e]; exact restr_get l tm t
theorem Is.res (h : Is β n s a w) (l : List Nat) : Is β n (s.res l) a w := by
  obtain ⟨hng, g, pm, hR⟩ := h
  obtain ⟨tm, ob, nx, fz, ng⟩ := s
  refine ⟨hng, g, pm, hR.temps hR.defers hR.fsz (fun t => ?_) (fun _ => rfl) rfl rfl⟩
  rcases restr_get l tm t with e | e
  · show VR w _ _ _ (look .dead (restr l tm) t) _
    rw [e]; exact .dead _
  · show VR w _ _ _ (look .dead (restr l tm) t) _
    rw [e]; exact hR.tm t

-- results
theorem load_var {P : Program} {t : TypeId} {x y : Value} (h : (Instr.loadAt t x).run P w = .ok y w) : (do loadVar t (← asAddr x)).run P w = .ok y w := by
  unfold Instr.loadAt at h
  cases x with
  | pointer p =>
    cases p with
    | none => simp [Instr.sureAddr] at h
    | some ad => simpa [Instr.sureAddr, asAddr] using h
  | _ => simp [Instr.sureAddr] at h
def resOf (tm : Array Value) : ResultVar → Sem Value
  | .tmp t => pure (tm.getD t undef)
  | .cell a t => do loadVar t (← asAddr (tm.getD a undef))
theorem results_eq (fn : Func) (tm : Array Value) : results fn tm = (do
    let vs ← fn.results.mapM (resOf tm)
    pure (if h : vs.size = 1 then vs[0] else .tuple vs)) := by
  unfold results
  congr 1

theorem resP_ok (ok : CxOk C) (h : R β s a w g pm) : ∀ {l : List ResultVar} {K : List V → Prop}, resP C s l K → ∃ vs xs, K vs ∧ (l.mapM (resOf a.tmps)).run C.P w = .ok xs w ∧ VRs w (okc β pm) g s.len vs xs
  | [], K, he => ⟨[], [], he, by simp, rfl, fun k v x hv => by simp at hv⟩
  | .tmp t :: l, K, he => by
    obtain ⟨vs, xs, h1, h2, h3⟩ := resP_ok ok h (l := l) he
    refine ⟨_, a.tmps.getD t undef :: xs, h1, by simp [List.mapM_cons, resOf, h2], by simp [h3.1], fun k v x hv hx => ?_⟩
    cases k with
    | zero =>
      simp only [List.getElem?_cons_zero, Option.some.injEq] at hv hx
      subst hv hx
      exact h.tm t
    | succ k => exact h3.2 k v x hv hx
  | .cell p t :: l, K, he => by
    obtain ⟨u, hu, he⟩ := loadP_ev (K := fun v => resP C s l fun vs => K (v :: vs)) he
    obtain ⟨vs, xs, h1, h2, h3⟩ := resP_ok ok h (l := l) he
    obtain ⟨y, h4, h5⟩ := evLoad_ok (C := C.c) ok.ty h (h.tm p) hu
    have h6 := load_var (P := C.P) (h4 w (Kp.refl w))
    refine ⟨_, y :: xs, h1, ?_, by simp [h3.1], fun k v x hv hx => ?_⟩
    · rw [List.mapM_cons]
      have : resOf a.tmps (.cell p t) = (do loadVar t (← asAddr (a.tmps.getD p undef))) := rfl
      rw [this, Sem.run_bind, h6]
      simp [h2]
    · cases k with
      | zero =>
        simp only [List.getElem?_cons_zero, Option.some.injEq] at hv hx
        subst hv hx
        exact h5
      | succ k => exact h3.2 k v x hv hx
theorem results_ok (ok : CxOk C) (h : R β s a w g pm) {fn : Func} {K : List V → Prop} (he : resP C s fn.results.toList K) : ∃ vs xs, K vs ∧ (results fn a.tmps).run C.P w = .ok (packR xs) w ∧ VRs w (okc β pm) g s.len vs xs := by
  obtain ⟨vs, xs, h1, h2, h3⟩ := resP_ok ok h he
  refine ⟨vs, xs, h1, ?_, h3⟩
  rw [results_eq, Array.mapM_eq_mapM_toList, Sem.run_bind]
  rw [show (List.toArray <$> List.mapM (resOf a.tmps) fn.results.toList).run C.P w = .ok xs.toArray w by rw [map_eq_pure_bind, Sem.run_bind, h2]; rfl]
  cases xs with
  | nil => rfl
  | cons x xs => cases xs with
    | nil => rfl
    | cons y ys => rfl
end
end Ev
namespace Ev
open Go Go.RowKit
set_option linter.unusedVariables false
set_option linter.unusedSimpArgs false

theorem distinct_snoc {ng r : Nat} : ∀ {l : List Nat}, distinct ng l = true → ng ≤ r → r ∉ l → distinct ng (l ++ [r]) = true
  | [], h, hr, hn => by
    unfold distinct
    show (match Nat.ble ng r with | true => (match posOf r [] 0 with | some _ => false | none => distinct ng []) | false => false) = true
    rw [Nat.ble_eq_true_of_le hr]; rfl
  | x :: l, h, hr, hn => by
    unfold distinct at h
    split at h
    case h_2 => cases h
    rename_i hx
    split at h
    · cases h
    rename_i hp
    have hp' : posOf x (l ++ [r]) 0 = none := posOf_none_iff.2 (fun hm => by
      rcases List.mem_append.1 hm with hm | hm
      · exact posOf_none_iff.1 hp hm
      · exact hn (List.mem_cons.2 (.inl (List.mem_singleton.1 hm).symm)))
    show distinct ng (x :: (l ++ [r])) = true
    unfold distinct
    rw [hx]; dsimp only; rw [hp']
    exact distinct_snoc h hr (fun hm => hn (List.mem_cons_of_mem _ hm))
theorem distinct_addR {ng : Nat} : ∀ (l L : List Nat), distinct ng L = true → distinct ng (addR ng l L) = true
  | [], L, h => h
  | r :: l, L, h => by
    unfold addR
    split
    · exact distinct_addR l L h
    · rename_i hb
      split
      · exact distinct_addR l L h
      · rename_i hp
        exact distinct_addR l _ (distinct_snoc h (by
          rcases Nat.lt_or_ge r ng with h1 | h1
          · rw [blt_iff.2 h1] at hb; cases hb
          · exact h1) (posOf_none_iff.1 hp))
theorem distinct_rootsOf {s : St} : ∀ (l L : List Nat), distinct s.ng L = true → distinct s.ng (rootsOf s l L) = true
  | [], L, h => h
  | t :: l, L, h => distinct_rootsOf l _ (distinct_addR _ L h)

section
variable {β : Base} {s : St} {a : Act} {w : World} {g : Gh} {pm : Nat → Nat → Option (Nat × Path)} {C : Cx} {n : Nat}

theorem R.retm (h : R β s a w g pm) {t : Nat} {v : V} (hv : VR w (okc β pm) g s.len v (a.tmps.getD t undef)) : R β ⟨(t, v) :: s.tm, s.ob, s.nx, s.fz, s.ng⟩ a w g pm where
  defers := h.defers
  fsz := h.fsz
  tm := fun u => by
    show VR w (okc β pm) g s.len (look .dead ((t, v) :: s.tm) u) _
    by_cases e : u = t
    · rw [e, look_cons_eq]; exact hv
    · rw [look_cons_ne _ _ _ (fun x => e x.symm)]; exact h.tm u
  blk := h.blk
  fresh := h.fresh
  own := h.own
  keep := h.keep
  low := h.low
  ngnx := h.ngnx
  top := h.top
theorem Is.nilT : ∀ (l : List (Nat × Nat)) {s : St}, Is β n s a w → Is β n (Ev.nilT l s) a w
  | [], s, h => h
  | (t, m) :: l, s, h => by
    unfold Ev.nilT
    dsimp only
    split
    · rename_i hx
      refine Is.nilT l ?_
      obtain ⟨hng, g, pm, hR⟩ := h
      obtain ⟨n1, n2, n3⟩ := hR.newNil true false m
      have hsm := St.newO_eq s ⟨[], true, m, false⟩
      have hR2 := n1.same hsm
      have hv : VR w (okc β pm) (nilGh g s.nx m) (s.newO ⟨[], true, m, false⟩).len (.hdr s.nx []) (a.tmps.getD t undef) := by
        have := hR.tm t
        rw [hx] at this
        rw [this.sc_inv]
        refine .hdr s.nx [] 0 _ ?_ n3
        rw [hsm.len]
        unfold St.len St.at
        rw [show (s.newOb ⟨[], true, m, false⟩).obj s.nx = some ⟨[], true, m, false⟩ from look_cons_eq _ _ _ _]
        rfl
      exact ⟨by cases s; exact hng, _, _, hR2.retm hv⟩
    · exact Is.nilT l h
theorem Is.canonL (h : Is β n s a w) (l : List Nat) : Is β n ((s.res l).seS l (rootsOf (s.res l) l [])) a w := by
  obtain ⟨hng, g, pm, hR⟩ := h.res l
  rw [St.seS_eq]
  exact ⟨hng, _, _, hR.sel (distinct_rootsOf _ [] rfl)⟩
theorem VRs.up {w w' : World} {ok ok' : Nat → Nat → Prop} {g g' : Gh} {at_ at' : Nat → Path → Option Nat} {vs : List V} {xs : List Value} (h : VRs w ok g at_ vs xs) (hV : ∀ v x, VR w ok g at_ v x → VR w' ok' g' at' v x) : VRs w' ok' g' at' vs xs := ⟨h.1, fun k v x hv hx => hV v x (h.2 k v x hv hx)⟩
theorem VRs.cons {w : World} {ok : Nat → Nat → Prop} {g : Gh} {at_ : Nat → Path → Option Nat} {v : V} {x : Value} {vs : List V} {xs : List Value} (h : VR w ok g at_ v x) (h' : VRs w ok g at_ vs xs) : VRs w ok g at_ (v :: vs) (x :: xs) := ⟨by simp [h'.1], fun k u y hu hy => by
  cases k with
  | zero => obtain rfl := Option.some.inj hu; obtain rfl := Option.some.inj hy; exact h
  | succ k => exact h'.2 k u y hu hy⟩
theorem VRs.inv {w : World} {ok : Nat → Nat → Prop} {g : Gh} {at_ : Nat → Path → Option Nat} {v : V} {vs : List V} {xs : List Value} (h : VRs w ok g at_ (v :: vs) xs) : ∃ x ys, xs = x :: ys ∧ VR w ok g at_ v x ∧ VRs w ok g at_ vs ys := by
  cases xs with
  | nil => have := h.1; simp at this
  | cons x ys => exact ⟨x, ys, rfl, h.2 0 v x rfl rfl, by have := h.1; simpa using this, fun k u y hu hy => h.2 (k + 1) u y hu hy⟩
theorem VRs.nil {w : World} {ok : Nat → Nat → Prop} {g : Gh} {at_ : Nat → Path → Option Nat} : VRs w ok g at_ [] [] := ⟨rfl, fun k v x hv => by simp at hv⟩

theorem nilO_ok : ∀ (vs : List V) (hs : List Nat) (s : St) (g : Gh) (xs : List Value), R β s a w g pm → VRs w (okc β pm) g s.len vs xs → ∃ g', R β (nilO hs vs s).2 a w g' pm ∧ (nilO hs vs s).2.ng = s.ng ∧ VRs w (okc β pm) g' (nilO hs vs s).2.len (nilO hs vs s).1 xs ∧ ∀ v x, VR w (okc β pm) g s.len v x → VR w (okc β pm) g' (nilO hs vs s).2.len v x
  | [], hs, s, g, xs, hR, hv => ⟨g, hR, rfl, hv, fun _ _ h => h⟩
  | v :: vs, hs, s, g, xs, hR, hv => by
    obtain ⟨x, ys, rfl, h1, h2⟩ := hv.inv
    have plain : ∃ g', R β (nilO hs.tail vs s).2 a w g' pm ∧ (nilO hs.tail vs s).2.ng = s.ng ∧ VRs w (okc β pm) g' (nilO hs.tail vs s).2.len (v :: (nilO hs.tail vs s).1) (x :: ys) ∧ ∀ v x, VR w (okc β pm) g s.len v x → VR w (okc β pm) g' (nilO hs.tail vs s).2.len v x := by
      obtain ⟨g', q1, q2, q3, q4⟩ := nilO_ok vs hs.tail s g ys hR h2
      exact ⟨g', q1, q2, q3.cons (q4 _ _ h1), q4⟩
    unfold nilO
    split
    · split
      · rename_i m _
        obtain rfl := h1.sc_inv
        obtain ⟨n1, n2, n3⟩ := hR.newNil true false (m + 1)
        have hsm := St.newO_eq s ⟨[], true, m + 1, false⟩
        have n2' : ∀ v x, VR w (okc β pm) g s.len v x → VR w (okc β pm) (nilGh g s.nx (m + 1)) (s.newO ⟨[], true, m + 1, false⟩).len v x := fun v x h => by rw [hsm.len]; exact n2 v x h
        obtain ⟨g', q1, q2, q3, q4⟩ := nilO_ok vs _ _ _ ys (n1.same hsm) (h2.up n2')
        refine ⟨g', q1, q2.trans hsm.ng, q3.cons (q4 _ _ ?_), fun v x h => q4 _ _ (n2' v x h)⟩
        refine .hdr s.nx [] 0 _ ?_ n3
        rw [hsm.len]
        unfold St.len St.at
        rw [show (s.newOb ⟨[], true, m + 1, false⟩).obj s.nx = some ⟨[], true, m + 1, false⟩ from look_cons_eq _ _ _ _]
        rfl
      · exact plain
    · exact plain
theorem nilR_ok : ∀ (vs : List V) (hs : List (List Nat)) (s : St) (g : Gh) (xs : List Value), R β s a w g pm → VRs w (okc β pm) g s.len vs xs → ∃ g', R β (nilR hs vs s).2 a w g' pm ∧ (nilR hs vs s).2.ng = s.ng ∧ VRs w (okc β pm) g' (nilR hs vs s).2.len (nilR hs vs s).1 xs ∧ ∀ v x, VR w (okc β pm) g s.len v x → VR w (okc β pm) g' (nilR hs vs s).2.len v x
  | [], hs, s, g, xs, hR, hv => ⟨g, hR, rfl, hv, fun _ _ h => h⟩
  | v :: vs, hs, s, g, xs, hR, hv => by
    obtain ⟨x, ys, rfl, h1, h2⟩ := hv.inv
    unfold nilR
    split
    · rename_i us
      cases h1 with
      | agg _ zs hl hz =>
        obtain ⟨g1, p1, p2, p3, p4⟩ := nilO_ok us (hs.headD []) s g zs hR ⟨hl, hz⟩
        obtain ⟨g', q1, q2, q3, q4⟩ := nilR_ok vs hs.tail _ g1 ys p1 (h2.up p4)
        exact ⟨g', q1, q2.trans p2, q3.cons (q4 _ _ (.agg _ zs p3.1 p3.2)), fun v x h => q4 _ _ (p4 v x h)⟩
    · obtain ⟨g1, p1, p2, p3, p4⟩ := nilO_ok [v] (hs.headD []) s g [x] hR (VRs.nil.cons h1)
      obtain ⟨g', q1, q2, q3, q4⟩ := nilR_ok vs hs.tail _ g1 ys p1 (h2.up p4)
      exact ⟨g', q1, q2.trans p2, (p3.up q4).append q3, fun v x h => q4 _ _ (p4 v x h)⟩

/-- Where code may come to. -/
def QK (β : Base) (n : Nat) (K : Ks) : Exit → Act → World → Prop
  | .normal, a, w => Now β n a w K.normal
  | .exit i, a, w => Now β n a w (K.exit i)
  | .ret, a, w => Now β n a w K.ret
  | _, _, _ => False
/-- Every region that is drawn is looked at. -/
def drawsOk (chk : Nat → Array Oper → Bool) : Code → Bool
  | .region id ops d => match d with
    | true => chk id ops
    | false => true
  | .seq a b => drawsOk chk a && drawsOk chk b
  | .cond _ a b => drawsOk chk a && drawsOk chk b
  | .block _ a => drawsOk chk a
  | .loop a => drawsOk chk a
  | _ => true
/-- What must be so of the evaluation of drawn regions. -/
def DrawOk (C : Cx) (evD : Nat → List Oper → St → (St → Prop) → Prop) (chk : Nat → Array Oper → Bool) : Prop :=
  ∀ {β : Base} {n : Nat} {s : St} {a : Act} {w : World} {id : Nat} {ops : Array Oper} {K : St → Prop} {Q : Exit → Act → World → Prop}, chk id ops = true → GlOk β C.gl → Is β n s a w → evD id ops.toList s K →
    (∀ a' w', Now β n a' w' K → Q .normal a' w') → (∀ c a w, ¬ Q (.panic c) a w) → (Code.region id ops true).wp C.P Q a w

/-- The round of a loop. -/
def wpIn (P : Program) (Q : Exit → Act → World → Prop) (c : Code) (a : Act) (w : World) : Prop :=
  ∀ (b : Frame) (k : List Item) (cs : List Frame), ∃ e a' w', Q e a' w' ∧ Arrives P (lone (b.at a (.code c :: .inLoop c :: k)) cs w) b k cs e a' w'
theorem wpIn_of {P : Program} {Q : Exit → Act → World → Prop} {c : Code} {a : Act} {w : World} (h : c.wp P (Exit.then (wpIn P Q c) Q) a w) : wpIn P Q c a w := by
  intro b k cs
  obtain ⟨e, a₁, w₁, hq, harr⟩ := h b (.inLoop c :: k) cs
  cases e with
  | normal =>
    obtain ⟨e₂, a₂, w₂, hq₂, harr₂⟩ := hq b k cs
    exact ⟨e₂, a₂, w₂, hq₂, .of_steps (Steps.trans harr (.one step_inLoop)) harr₂⟩
  | exit id => exact ⟨_, a₁, w₁, hq, .pass (x := .inLoop c) rfl (fun _ _ => .inl (by simp)) harr⟩
  | goto l => exact ⟨_, a₁, w₁, hq, .pass (x := .inLoop c) rfl (fun _ _ => .inl (by simp)) harr⟩
  | ret => exact ⟨_, a₁, w₁, hq, .pass (x := .inLoop c) rfl (fun _ _ => .inl (by simp)) harr⟩
  | panic ch => exact ⟨_, a₁, w₁, hq, .pass (x := .inLoop c) rfl (fun _ _ => .inl (by simp)) harr⟩
  | outgrown => exact ⟨_, a₁, w₁, hq, .pass (x := .inLoop c) rfl (fun _ _ => .inl (by simp)) harr⟩
theorem wp_of_in {P : Program} {Q : Exit → Act → World → Prop} {c : Code} {a : Act} {w : World} (h : wpIn P Q c a w) : (Code.loop c).wp P Q a w := by
  intro b k cs
  obtain ⟨e, a', w', hq, harr⟩ := h b k cs
  exact ⟨e, a', w', hq, .of_steps (.one step_loop) harr⟩

theorem codeP_ok (ok : CxOk C) (hgl : GlOk β C.gl) {evD : Nat → List Oper → St → (St → Prop) → Prop} {chk : Nat → Array Oper → Bool} (hD : DrawOk C evD chk) : ∀ (c : Code) (K : Ks) (s : St) (a : Act) (w : World), drawsOk chk c = true → codeP C evD c K s → Is β n s a w → c.wp C.P (QK β n K) a w := by
  intro c
  induction c with
  | skip => intro K s a w hc he h; exact wp_skip ⟨s, h, he⟩
  | label l => intro K s a w hc he h; exact wp_label ⟨s, h, he⟩
  | exit i => intro K s a w hc he h; exact wp_exit ⟨s, h, he⟩
  | ret => intro K s a w hc he h; exact wp_ret ⟨s, h, he⟩
  | region id ops draw =>
    intro K s a w hc he h
    cases draw with
    | false =>
      have he : forceSt (s.res (C.keep id)) (fun s => opsP C ops.toList ops.toList s K.normal) := he
      rw [forceSt_eq] at he
      refine wp_region ?_
      have := opsP_ok ok hgl (Q := QK β n K) (ops := ops) (K := K.normal) (fun a' w' h' => h') ops.toList 0 _ a w (fun k => by simp) he (h.res _)
      rw [List.range_eq_range', ← Array.length_toList]
      exact this
    | true =>
      have he : forceSt (s.res (C.keep id)) (fun s => evD id ops.toList s K.normal) := he
      rw [forceSt_eq] at he
      exact hD hc hgl (h.res _) he (fun a' w' h' => h') (fun c a w hq => hq)
  | seq x y ihx ihy =>
    intro K s a w hc he h
    have he : (match C.jn (firstId y) with
      | false => codeP C evD x (seqKs (codeP C evD y) K) s
      | true => RegP (fun I => codeP C evD x (joinKs (C.nl (firstId y)) (C.keep (firstId y)) I K) s) (codeP C evD y K)) := he
    have hc : (drawsOk chk x && drawsOk chk y) = true := hc
    rw [Bool.and_eq_true] at hc
    split at he
    · refine wp_seq (wp_mono (ihx _ s a w hc.1 he h) (fun e a' w' hq => ?_))
      cases e with
      | normal => obtain ⟨s', h', hK⟩ := hq; exact ihy K s' a' w' hc.2 hK h'
      | exit i => exact hq
      | ret => exact hq
      | _ => exact hq
    · obtain ⟨I, he, hI⟩ := he.ex
      refine wp_seq (wp_mono (ihx _ s a w hc.1 he h) (fun e a' w' hq => ?_))
      cases e with
      | normal =>
        obtain ⟨s', h', hK⟩ := hq
        have hK : canonK (C.keep (firstId y)) (nilT (C.nl (firstId y)) s') I := hK
        rw [canonK_eq] at hK
        exact ihy K _ a' w' hc.2 (hI _ hK) ((h'.nilT _).canonL _)
      | exit i => exact hq
      | ret => exact hq
      | _ => exact hq
  | cond c x y ihx ihy =>
    intro K s a w hc he h
    have he : (match s.opd c with
      | .sc (.bool b) => ifP b (codeP C evD x K s) (codeP C evD y K s)
      | _ => False) := he
    split at he
    case h_2 => exact he.elim
    rename_i _ b hb
    have hc : (drawsOk chk x && drawsOk chk y) = true := hc
    rw [Bool.and_eq_true] at hc
    obtain ⟨hng, g, pm, hR⟩ := h
    have hv := hR.opd c
    rw [hb] at hv
    cases b with
    | true => exact wp_cond_true hv.sc_inv (ihx K s a w hc.1 he ⟨hng, g, pm, hR⟩)
    | false => exact wp_cond_false hv.sc_inv (ihy K s a w hc.2 he ⟨hng, g, pm, hR⟩)
  | block id c ih =>
    intro K s a w hc he h
    have he : codeP C evD c (blockKs id K) s := he
    refine wp_block (wp_mono (ih _ s a w hc he h) (fun e a' w' hq => ?_))
    cases e with
    | exit i =>
      obtain ⟨s', h', hK⟩ := hq
      have hK : (match Nat.beq i id with | true => K.normal s' | false => K.exit i s') := hK
      show (if i = id then QK β n K .normal a' w' else QK β n K (.exit i) a' w')
      split at hK
      · rename_i hb; rw [if_pos (Nat.eq_of_beq_eq_true hb)]; exact ⟨s', h', hK⟩
      · rename_i hb; rw [if_neg (fun e => by rw [e, Nat.beq_refl] at hb; cases hb)]; exact ⟨s', h', hK⟩
    | _ => exact hq
  | loop c ih =>
    intro K s a w hc he h
    have he : canonK (C.keep (firstId c)) (nilT (C.nl (firstId c)) s) (fun s => LoopP (fun s' next => codeP C evD c (joinKs (C.nl (firstId c)) (C.keep (firstId c)) next K) s') s) := he
    rw [canonK_eq] at he
    refine wp_of_in (he.all (fun t => ∀ a w, Is β n t a w → wpIn C.P (QK β n K) c a w) (fun t ht a w hI => ?_) a w ((h.nilT _).canonL _))
    refine wpIn_of (wp_mono (ih _ t a w hc ht hI) (fun e a' w' hq => ?_))
    cases e with
    | normal =>
      obtain ⟨s', h', hK⟩ := hq
      have hK : canonK (C.keep (firstId c)) (nilT (C.nl (firstId c)) s') (fun t => ∀ (a : Act) (w : World), Is β n t a w → wpIn C.P (QK β n K) c a w) := hK
      rw [canonK_eq] at hK
      exact hK a' w' ((h'.nilT _).canonL _)
    | exit i => exact hq
    | ret => exact hq
    | _ => exact hq
  | _ => intro K s a w hc he h; exact (show False from he).elim

/-- WHAT THE EVALUATOR SAYS IS SO. -/
theorem fn_sound (ok : CxOk C) {evD : Nat → List Oper → St → (St → Prop) → Prop} {chk : Nat → Array Oper → Bool} (hD : DrawOk C evD chk) {f : Nat} {fn : Func} (hf : C.P.funcs[f]? = some fn) (hch : ∀ c, fn.body = some c → drawsOk chk c = true) {args : List V} {obs : List Ob} {Q : List V → List Ob → Prop} (he : fnP C evD fn args obs Q) : Fn C.P C.gl f args obs Q := by
  refine ⟨?_⟩
  intro w okk g pm xs hl hx hblk hlow hokpm hgl
  unfold fnP at he
  split at he
  case h_2 => exact he.elim
  rename_i _ c hb
  split at he
  case h_2 => exact he.elim
  rename_i hle
  have hle : args.length ≤ fn.ntmps := Nat.le_of_ble_eq_true hle
  have hstart := R.start hl hle hx hblk hlow hokpm
  have hglOk : GlOk (baseOf w okk pm g obs) C.gl := hgl
  refine calls_of_wp hf hb ?_
  have hret : ∀ s' a' w', Is (baseOf w okk pm g obs) obs.length s' a' w' → retP C fn.results.toList Q s' → a'.defers = [] ∧ ∃ v, (results fn a'.tmps).run C.P w' = .ok v w' ∧ ∃ rs obs', Q rs obs' ∧ ∀ n0, obs.length ≤ n0 → ∃ g' pm', After w w' okk g pm obs obs' n0 rs v g' pm' := by
    intro s' a' w' h' hr
    obtain ⟨hng, g1, pm1, hR⟩ := h'
    refine ⟨hR.defers, ?_⟩
    obtain ⟨vs, ys, hk, hres, hys⟩ := results_ok ok hR hr
    refine ⟨_, hres, ?_⟩
    obtain ⟨g2, q1, q2, q3, _⟩ := nilR_ok vs C.rh s' g1 ys hR hys
    generalize hnil : nilR C.rh vs s' = nn at *
    obtain ⟨vs2, s2⟩ := nn
    dsimp only at hk q1 q2 q3
    rw [forceSt_eq] at hk
    split at hk
    case h_2 => exact hk.elim
    rename_i hap
    split at hk
    case h_2 => exact hk.elim
    rename_i hro
    split at hk
    case h_2 => exact hk.elim
    rename_i _ os hos
    split at hk
    case h_2 => exact hk.elim
    rename_i _ rs hrs
    refine ⟨rs, os, hk, fun n0 hn0 => ?_⟩
    exact q1.ret (q2.trans hng) hos q3.1 q3.2 hap hro hrs hn0
  refine wp_mono (codeP_ok ok hglOk hD c _ _ _ w (hch c hb) he ⟨rfl, g, pm, hstart⟩) (fun e a' w' hq => ?_)
  have fin : Now (baseOf w okk pm g obs) obs.length a' w' (retP C fn.results.toList Q) → a'.defers = [] ∧ ∃ v, (results fn a'.tmps).run C.P w' = .ok v w' ∧ ∃ x rs obs', Ending.returned v = .returned x ∧ Q rs obs' ∧ ∀ n0, obs.length ≤ n0 → ∃ g' pm', After w w' okk g pm obs obs' n0 rs x g' pm' := fun ⟨s', h', hr⟩ => by
    obtain ⟨h1, v, h2, rs, obs', h3, h4⟩ := hret s' a' w' h' hr
    exact ⟨h1, v, h2, v, rs, obs', rfl, h3, h4⟩
  cases e with
  | normal => exact fin hq
  | ret => exact fin hq
  | exit i => obtain ⟨s', _, hf⟩ := hq; exact hf.elim
  | _ => exact hq.elim
end
end Ev
namespace Ev
open Go Go.RowKit
set_option linter.unusedVariables false
set_option linter.unusedSimpArgs false

/-- What a kind of operation does: 0 nothing, 1 a call of a value, 2 something else. -/
def kindO : Op → Nat
  | .box _ _ => 2
  | .alloc _ => 2
  | .store _ _ _ => 2
  | .makeSlice _ _ _ => 2
  | .buildSlice _ _ _ => 2
  | .call c => match c.callee with
    | .value _ => 1
    | .builtin .append => 2
    | _ => 0
  | _ => 0
def strip1 : V → V
  | .sc x => .sc x
  | _ => .dead
def stripV : V → V
  | .tup vs => .tup (vs.map strip1)
  | v => strip1 v
def dstV (s : St) : Option Nat → V
  | some d => s.get d
  | none => .dead
/-- An operation that waits for an answer, in two states. -/
def guard2P (ops : List Oper) (h s : St) (o : Oper) (A B : St → St → Prop) : Prop :=
  match o.guard with
  | none => A h s
  | some (j, want) => match dstAt ops j with
    | some t => match h.get t with
      | .sc x => match x with
        | .bool b => ifP b
          (match want with
            | true => putP h (some t) (.sc (.bool true)) fun h => putP s (some t) (.sc (.bool true)) fun s => A h s
            | false => putP h (some t) (.sc (.bool true)) fun h => putP s (some t) (.sc (.bool true)) fun s => B h s)
          (match want with
            | true => putP h (some t) (.sc (.bool false)) fun h => putP s (some t) (.sc (.bool false)) fun s => B h s
            | false => putP h (some t) (.sc (.bool false)) fun h => putP s (some t) (.sc (.bool false)) fun s => A h s)
        | .tuple _ => B h s
        | _ => False
      | _ => False
    | none => False
/-- Behind the first call: h tells what stood at the region's beginning. -/
def draw2 (C : Cx) (ops : List Oper) : List (Nat × Bool) → St → St → (St → Prop) → Prop
  | [], _, s, K => K s
  | (i, fl) :: l, h, s, K => match ops[i]? with
    | none => False
    | some o => guard2P ops h s o (fun h s => match kindO o.op with
      | 0 => match fl with
        | true => pureP C h o fun u => pureP C s o fun v => putP h o.dst u fun h => putP s o.dst v fun s => draw2 C ops l h s K
        | false => pureP C s o fun v => putP h o.dst (stripV v) fun h => putP s o.dst v fun s => draw2 C ops l h s K
      | 1 => match fl with
        | true => False
        | false => match o.op with
          | .call c => match c.callee with
            | .value f => match s.opd f with
              | .fn g _ => match noGiven (C.md g) with
                | true => evCallP C s f c.args.toList o.dst fun s => putP h o.dst (stripV (dstV s o.dst)) fun h => draw2 C ops l h s K
                | false => False
              | _ => False
            | _ => False
          | _ => False
      | _ => False) (fun h s => putP h o.dst (.sc undef) fun h => putP s o.dst (.sc undef) fun s => draw2 C ops l h s K)
/-- Up to the first call. -/
def draw1 (C : Cx) (ops : List Oper) : List (Nat × Bool) → St → (St → Prop) → Prop
  | [], s, K => K s
  | (i, fl) :: l, s, K => match ops[i]? with
    | none => False
    | some o => match kindO o.op with
      | 0 => guardP ops s o (fun s => pureP C s o fun v => putP s o.dst v fun s => draw1 C ops l s K) (fun s => putP s o.dst (.sc undef) fun s => draw1 C ops l s K)
      | _ => draw2 C ops ((i, fl) :: l) s s K
def ordOk (ops : Array Oper) : Array Bool → List (Nat × Bool) → Bool
  | listed, [] => (Region.ready .any ops listed).isEmpty
  | listed, (i, fl) :: l => (match fl with
    | true => Region.free .any ops listed i && (Region.ready .any ops listed).contains i
    | false => Region.ready .any ops listed == [i]) && ordOk ops (listed.setIfInBounds i true) l
/-- This order may stand for all. -/
def drawChk (ops : Array Oper) (ord : List (Nat × Bool)) : Bool := Region.noSelect ops && (Nat.beq ord.length ops.size && ordOk ops (Array.replicate ops.size false) ord)
def evDr (C : Cx) (dr : Nat → List (Nat × Bool)) : Nat → List Oper → St → (St → Prop) → Prop := fun id ops s K => draw1 C ops (dr id) s K

section
variable {β : Base} {s : St} {a : Act} {w : World} {g : Gh} {pm : Nat → Nat → Option (Nat × Path)} {C : Cx} {n : Nat}

theorem Grew.cell {w w' : World} (h : Grew w w') {b o : Nat} (hb : b < w.heap.size) : w'.cell? ⟨b, o, none⟩ = w.cell? ⟨b, o, none⟩ ∧ w'.frozen? ⟨b, o, none⟩ = w.frozen? ⟨b, o, none⟩ := Keeps.cell h b o hb rfl
theorem Grew.kp {w w' : World} (h : Grew w w') : Kp w w' := fun b o c hc => by rw [(h.cell (cell_low hc)).1]; exact hc
theorem Grew.refl (w : World) : Grew w w := ⟨rfl, rfl, rfl, Nat.le_refl _, fun _ _ _ => rfl, fun _ _ _ _ => ⟨rfl, rfl⟩⟩
theorem Grew.trans {w w' w'' : World} (h : Grew w w') (h' : Grew w' w'') : Grew w w'' :=
  ⟨h'.os.trans h.os, h'.tape.trans h.tape, h'.output.trans h.output, Nat.le_trans h.size h'.size, fun b hb _ => by rw [h'.block b (Nat.lt_of_lt_of_le hb h.size) (fun _ => rfl), h.block b hb (fun _ => rfl)], fun b o hb _ => by
    obtain ⟨e1, e2⟩ := h'.cell (Nat.lt_of_lt_of_le hb h.size) (o := o)
    obtain ⟨e3, e4⟩ := h.cell hb (o := o)
    exact ⟨e1.trans e3, e2.trans e4⟩⟩
theorem R.grew (h : R β s a w g pm) {w' : World} (hg : Grew w w') : R β s a w' g pm := by
  have hk : ∀ b o c, okc β pm b o → w.cell? ⟨b, o, none⟩ = some c → okc β pm b o ∧ w'.cell? ⟨b, o, none⟩ = some c := fun b o c h1 h2 => ⟨h1, hg.kp _ _ _ h2⟩
  have hsame : ∀ r p, SameGh g g r r p p := fun r p => ⟨rfl, rfl, rfl, rfl, rfl⟩
  exact {
    defers := h.defers, fsz := h.fsz
    tm := fun t => (h.tm t).mono hk (fun r p m hm => ⟨hm, hsame r p⟩)
    blk := fun r p es d m hh => by
      have hb := h.blk r p es d m hh
      refine ⟨hb.siz, hb.nil, hb.len, hb.row, fun hn k hk' => ?_, fun i j e v he hv => ?_⟩
      · obtain ⟨m1, m2, m3⟩ := hb.mine hn k hk'
        have hl := h.low _ _ (show pm (g.blk r p) (g.off r p + k) ≠ none by rw [m1]; simp)
        obtain ⟨c1, c2⟩ := hg.cell hl (o := g.off r p + k)
        exact ⟨m1, by rw [c2]; exact m2, by rw [c1]; exact m3⟩
      · obtain ⟨c, c1, c2⟩ := hb.cell i j e v he hv
        exact ⟨c, hg.kp _ _ _ c1, CR.mono hk (fun _ => hsame r _) c2⟩
    fresh := h.fresh, own := h.own
    keep := ⟨hg.os.trans h.keep.os, hg.tape.trans h.keep.tape, hg.output.trans h.keep.output, Nat.le_trans h.keep.size hg.size, fun b hb ho => by
      rw [hg.block b (Nat.lt_of_lt_of_le hb h.keep.size) (fun _ => rfl)]; exact h.keep.block b hb ho, fun b o hb ho => by
      obtain ⟨e1, e2⟩ := hg.cell (Nat.lt_of_lt_of_le hb h.keep.size) (o := o)
      obtain ⟨e3, e4⟩ := h.keep.cell b o hb ho
      exact ⟨e1.trans e3, e2.trans e4⟩⟩
    low := fun b o hb => Nat.lt_of_lt_of_le (h.low b o hb) hg.size
    ngnx := h.ngnx, top := h.top }

theorem strip_ok {w w' : World} {ok ok' : Nat → Nat → Prop} {g g' : Gh} {at_ at' : Nat → Path → Option Nat} {v : V} {x : Value} (h : VR w ok g at_ v x) : VR w' ok' g' at' (stripV v) x := by
  have h1 : ∀ v x, VR w ok g at_ v x → VR w' ok' g' at' (strip1 v) x := fun v x h => by
    cases h with
    | sc x => exact .sc _
    | _ => exact .dead _
  cases h with
  | tup vs xs hl hx => exact .tup _ xs (by rw [List.length_map]; exact hl) (mapVR h1 hx)
  | sc x => exact .sc _
  | _ => exact .dead _
theorem Is.grew (h : Is β n s a w) {w' : World} (hg : Grew w w') : Is β n s a w' := by
  obtain ⟨h1, g, pm, h2⟩ := h
  exact ⟨h1, g, pm, h2.grew hg⟩
/-- The value that was put, in another state. -/
theorem put_other (h : Is β n s a w) {dst : Option Nat} {v : V} {x : Value} {K : St → Prop} (hv : ∀ ok g at_, VR w ok g at_ v x) (he : putP s dst v K) : Now β n (a.put dst x) w K := by
  obtain ⟨h1, g, pm, h2⟩ := h
  exact putP_ok h2 h1 (hv _ _ _) he

theorem guard2P_ok {ops : Array Oper} {m : Nat} {h s : St} {w0 : World} (hh : Is β m h a w0) (hs : Is β n s a w) {o : Oper} {A B : St → St → Prop} (he : guard2P ops.toList h s o A B) :
    (Region.wanted o (yielded ops a.tmps) = true ∧ ∃ h' s', Is β m h' a w0 ∧ Is β n s' a w ∧ A h' s') ∨ (Region.wanted o (yielded ops a.tmps) = false ∧ ∃ h' s', Is β m h' a w0 ∧ Is β n s' a w ∧ B h' s') := by
  have two : ∀ {t : Nat} {x : Value} {K : St → St → Prop}, a.tmps.getD t undef = x → (putP h (some t) (.sc x) fun h => putP s (some t) (.sc x) fun s => K h s) → ∃ h' s', Is β m h' a w0 ∧ Is β n s' a w ∧ K h' s' := fun {t x K} hx hp => by
    obtain ⟨h1, g1, pm1, h2⟩ := hh
    obtain ⟨s1, g2, pm2, s2⟩ := hs
    obtain ⟨h', q1, hp⟩ := putP_any h2 h1 hx hp
    obtain ⟨s', q2, hp⟩ := putP_any s2 s1 hx hp
    exact ⟨h', s', q1, q2, hp⟩
  unfold guard2P at he
  unfold Region.wanted
  split at he
  · rename_i hg; rw [hg]; exact .inl ⟨rfl, h, s, hh, hs, he⟩
  · rename_i j want hg
    rw [hg]
    dsimp only
    split at he
    case h_2 => exact he.elim
    rename_i _ t hd
    rw [dstAt_bind] at hd
    have htm : VR w0 _ _ _ (h.get t) _ := (hh.2.choose_spec.choose_spec).tm t
    split at he
    case h_2 => exact he.elim
    rename_i _ x hx
    rw [hx] at htm
    have htx := htm.sc_inv
    have hy : yielded ops a.tmps j = (match a.tmps[t]? with | some (.bool b) => some b | _ => none) := by rw [yielded_eq, hd]; rfl
    have hgd : ∀ c, a.tmps[t]? = some c → a.tmps.getD t undef = c := fun c hc => by rw [Array.getD_eq_getD_getElem?, hc]; rfl
    split at he
    case h_3 => exact he.elim
    · rename_i b
      have hyb : yielded ops a.tmps j = some b := by
        rw [hy]
        cases hc : a.tmps[t]? with
        | none => rw [Array.getD_eq_getD_getElem?, hc] at htx; cases htx
        | some c => rw [hgd c hc] at htx; subst htx; rfl
      rw [hyb]
      unfold ifP at he
      cases b with
      | true =>
        cases want with
        | true => exact .inl ⟨rfl, two htx he⟩
        | false => exact .inr ⟨rfl, two htx he⟩
      | false =>
        cases want with
        | true => exact .inr ⟨rfl, two htx he⟩
        | false => exact .inl ⟨rfl, two htx he⟩
    · rename_i cs
      have hyn : yielded ops a.tmps j = none := by
        rw [hy]
        cases hc : a.tmps[t]? with
        | none => rfl
        | some c => rw [hgd c hc] at htx; subst htx; rfl
      rw [hyn]
      exact .inr ⟨rfl, h, s, hh, hs, he⟩

theorem kind_pure {o : Oper} (hk : kindO o.op = 0) {K : St → Prop} : opP C s o K = pureP C s o fun v => putP s o.dst v K := by
  obtain ⟨dst, op, type, pos, after, guard⟩ := o
  unfold opP
  dsimp only at hk ⊢
  cases op <;> first | rfl | skip
  all_goals first | (cases hk; done) | skip
  rename_i c
  obtain ⟨callee, args, ts⟩ := c
  cases callee with
  | value f => cases hk
  | builtin b => cases b <;> first | rfl | cases hk
  | _ => rfl

theorem putP_lt {d : Nat} {v : V} {K : St → Prop} (h : putP s (some d) v K) : d < s.fz := by
  obtain ⟨tm, ob, nx, fz, ng⟩ := s
  unfold putP at h
  dsimp only at h
  split at h
  · rename_i e; exact blt_iff.1 e
  · exact h.elim
theorem putP_none {v u : V} {K : St → Prop} (h : putP s none v K) : putP s none u K := by
  obtain ⟨tm, ob, nx, fz, ng⟩ := s
  exact h
theorem draw2_ok (ok : CxOk C) (hgl : GlOk β C.gl) {ops : Array Oper} {Q : Exit → Act → World → Prop} {K : St → Prop} (hQ : ∀ a' w', Now β n a' w' K → Q .normal a' w') (hP : ∀ c a w, ¬ Q (.panic c) a w) (hsel : Region.noSelect ops = true) {w0 : World} {m : Nat} :
    ∀ (ord : List (Nat × Bool)) (listed : Array Bool) (h s : St) (a : Act) (w : World), ordOk ops listed ord = true → draw2 C ops.toList ord h s K → Is β m h a w0 → Is β n s a w → Grew w0 w → wpAnyH C.P .any ops Q (Grew w0) ord.length listed a w
  | [], listed, h, s, a, w, ho, he, hh, hs, hg => ⟨by simpa [ordOk] using ho, hQ a w ⟨s, hs, he⟩⟩
  | (i, fl) :: l, listed, h, s, a, w, ho, he, hh, hs, hg => by
    unfold ordOk at ho
    rw [Bool.and_eq_true] at ho
    obtain ⟨ho1, ho2⟩ := ho
    unfold draw2 at he
    cases hi : ops[i]? with
    | none => rw [show ops.toList[i]? = none by simpa using hi] at he; exact he.elim
    | some o =>
      rw [show ops.toList[i]? = some o by simpa using hi] at he
      dsimp only at he
      rw [List.length_cons]
      have one : ∀ {rs : List Nat}, Region.ready .any ops listed = rs → rs = [i] → (wpOp C.P ops Q i (fun a' w' => Grew w0 w' ∧ wpAnyH C.P .any ops Q (Grew w0) l.length (listed.setIfInBounds i true) a' w') a w) → wpAnyH C.P .any ops Q (Grew w0) (l.length + 1) listed a w := fun {rs} hr hri hw => by
        refine wpAnyH_all (rs := [i]) (hr.trans hri) (by simp) (fun j hj => ?_)
        obtain rfl : j = i := by simpa using hj
        exact hw
      rcases guard2P_ok hh hs he with ⟨hw, h1, s1, hh1, hs1, he⟩ | ⟨hw, h1, s1, hh1, hs1, he⟩
      · -- carried out
        split at he
        · rename_i hk
          cases fl with
          | true =>
            dsimp only at he ho1
            rw [Bool.and_eq_true] at ho1
            obtain ⟨hm1, g1, pm1, hR1⟩ := hh1
            obtain ⟨hn1, g2, pm2, hR2⟩ := hs1
            obtain ⟨u, z, z1, z2, he⟩ := pureP_ok ok hR1 he
            obtain ⟨v, y, y1, y2, he⟩ := pureP_ok ok hR2 he
            have hzy : z = y := by
              have e1 := z1 w hg.kp
              have e2 := y1 w (Kp.refl w)
              rw [e1] at e2
              injection e2 with e2 _
              injection e2
            subst hzy
            obtain ⟨h2, hh2, he⟩ := putP_ok hR1 hm1 z2 he
            obtain ⟨s2, hs2, he⟩ := putP_ok hR2 hn1 y2 he
            exact wpAnyH_take hi hsel ho1.1 ho1.2 (fun c a w hq => (hP _ _ _ hq).elim) (.inl ⟨hw, fun w' hS => z1 w' hS.kp⟩) hg (draw2_ok ok hgl hQ hP hsel l _ h2 s2 _ w ho2 he hh2 hs2 hg)
          | false =>
            dsimp only at he ho1
            obtain ⟨hn1, g2, pm2, hR2⟩ := hs1
            obtain ⟨v, y, y1, y2, he⟩ := pureP_ok ok hR2 he
            obtain ⟨hm1, g1, pm1, hR1⟩ := hh1
            obtain ⟨h2, hh2, he⟩ := putP_ok hR1 hm1 (strip_ok y2) he
            obtain ⟨s2, hs2, he⟩ := putP_ok hR2 hn1 y2 he
            refine one rfl (by simpa using ho1) ?_
            unfold wpOp
            rw [hi]
            dsimp only
            rw [if_pos hw]
            exact .inl (wp_value (y1 w (Kp.refl w)) ⟨hg, draw2_ok ok hgl hQ hP hsel l _ h2 s2 _ w ho2 he hh2 hs2 hg⟩)
        · rename_i hk
          cases fl with
          | true => exact he.elim
          | false =>
            dsimp only at he ho1
            split at he
            case h_2 => exact he.elim
            rename_i _ c hop
            split at he
            case h_2 => exact he.elim
            rename_i _ F hc
            split at he
            case h_2 => exact he.elim
            rename_i _ gf cs hf
            split at he
            case h_2 => exact he.elim
            rename_i hng
            refine one rfl (by simpa using ho1) ?_
            unfold wpOp
            rw [hi]
            dsimp only
            rw [if_pos hw]
            refine .inl (evCallQ_ok ok hgl hs1 hop hc he hf hng (fun x w' hnow hgw => ?_))
            obtain ⟨s2, hs2, he⟩ := hnow
            have hg' := hg.trans hgw
            obtain ⟨hm1, g1, pm1, hR1⟩ := hh1
            have hd : VR w0 (okc β pm1) g1 h1.len (stripV (dstV s2 o.dst)) x ∨ o.dst = none := by
              cases hdst : o.dst with
              | none => exact .inr rfl
              | some d =>
                left
                rw [hdst] at he hs2
                have hlt : d < a.tmps.size := by rw [hR1.fsz]; exact putP_lt he
                obtain ⟨_, g3, pm3, hR3⟩ := hs2
                have ht := hR3.tm d
                have hx : (a.put (some d) x).tmps.getD d undef = x := by
                  show (a.tmps.setIfInBounds d x).getD d undef = x
                  simp [Array.getD, hlt]
                rw [hx] at ht
                exact strip_ok ht
            have hnow : Now β m (a.put o.dst x) w0 fun h => draw2 C ops.toList l h s2 K := by
              rcases hd with hd | hd
              · exact putP_ok hR1 hm1 hd he
              · rw [hd] at he ⊢
                exact putP_ok hR1 hm1 (.dead x) (putP_none he)
            obtain ⟨h2, hh2, he⟩ := hnow
            exact ⟨hg', draw2_ok ok hgl hQ hP hsel l _ h2 s2 _ w' ho2 he hh2 hs2 hg'⟩
        · exact he.elim
      · -- skipped
        obtain ⟨hm1, g1, pm1, hR1⟩ := hh1
        obtain ⟨hn1, g2, pm2, hR2⟩ := hs1
        obtain ⟨h2, hh2, he⟩ := putP_ok hR1 hm1 (z := undef) (.sc _) he
        obtain ⟨s2, hs2, he⟩ := putP_ok hR2 hn1 (z := undef) (.sc _) he
        have rest := draw2_ok ok hgl hQ hP hsel l (listed.setIfInBounds i true) h2 s2 _ w ho2 he hh2 hs2 hg
        cases fl with
        | true =>
          dsimp only at ho1
          rw [Bool.and_eq_true] at ho1
          exact wpAnyH_take hi hsel ho1.1 ho1.2 (fun c a w hq => (hP _ _ _ hq).elim) (.inr ⟨hw, rfl⟩) hg rest
        | false =>
          dsimp only at ho1
          refine one rfl (by simpa using ho1) ?_
          unfold wpOp
          rw [hi]
          dsimp only
          rw [if_neg (by rw [hw]; simp)]
          exact ⟨hg, rest⟩

theorem draw1_ok (ok : CxOk C) (hgl : GlOk β C.gl) {ops : Array Oper} {Q : Exit → Act → World → Prop} {K : St → Prop} (hQ : ∀ a' w', Now β n a' w' K → Q .normal a' w') (hP : ∀ c a w, ¬ Q (.panic c) a w) (hsel : Region.noSelect ops = true) {w : World} :
    ∀ (ord : List (Nat × Bool)) (listed : Array Bool) (s : St) (a : Act), ordOk ops listed ord = true → draw1 C ops.toList ord s K → Is β n s a w → wpAnyH C.P .any ops Q (Grew w) ord.length listed a w
  | [], listed, s, a, ho, he, hs => ⟨by simpa [ordOk] using ho, hQ a w ⟨s, hs, he⟩⟩
  | (i, fl) :: l, listed, s, a, ho, he, hs => by
    have ho0 := ho
    unfold draw1 at he
    cases hi : ops[i]? with
    | none => rw [show ops.toList[i]? = none by simpa using hi] at he; exact he.elim
    | some o =>
      rw [show ops.toList[i]? = some o by simpa using hi] at he
      dsimp only at he
      split at he
      · rename_i hk
        unfold ordOk at ho
        rw [Bool.and_eq_true] at ho
        obtain ⟨ho1, ho2⟩ := ho
        rw [List.length_cons]
        have step : ∀ (z : Value) (s2 : St), YieldsIf C.P ops (Grew w) o z a → Is β n s2 (a.put o.dst z) w → draw1 C ops.toList l s2 K → wpAnyH C.P .any ops Q (Grew w) (l.length + 1) listed a w := fun z s2 hy hs2 he2 => by
          have rest := draw1_ok ok hgl hQ hP hsel l (listed.setIfInBounds i true) s2 _ ho2 he2 hs2
          cases fl with
          | true =>
            dsimp only at ho1
            rw [Bool.and_eq_true] at ho1
            exact wpAnyH_take hi hsel ho1.1 ho1.2 (fun c a w hq => (hP _ _ _ hq).elim) hy (Grew.refl w) rest
          | false =>
            dsimp only at ho1
            refine wpAnyH_all (rs := [i]) (by simpa using ho1) (by simp) (fun j hj => ?_)
            obtain rfl : j = i := by simpa using hj
            exact hy.wpOp hi (Grew.refl w) ⟨Grew.refl w, rest⟩
        rcases guardP_ok hs he with ⟨hw, s1, hs1, he⟩ | ⟨hw, s1, hs1, he⟩
        · obtain ⟨hn1, g1, pm1, hR1⟩ := hs1
          obtain ⟨v, z, z1, z2, he⟩ := pureP_ok ok hR1 he
          obtain ⟨s2, hs2, he⟩ := putP_ok hR1 hn1 z2 he
          exact step z s2 (.inl ⟨hw, fun w' hS => z1 w' hS.kp⟩) hs2 he
        · obtain ⟨hn1, g1, pm1, hR1⟩ := hs1
          obtain ⟨s2, hs2, he⟩ := putP_ok hR1 hn1 (z := undef) (.sc _) he
          exact step undef s2 (.inr ⟨hw, rfl⟩) hs2 he
      · exact draw2_ok ok hgl hQ hP hsel ((i, fl) :: l) listed s s a w ho0 he hs hs (Grew.refl w)

/-- Drawn regions are evaluated rightly. -/
theorem draw_ok (ok : CxOk C) (dr : Nat → List (Nat × Bool)) : DrawOk C (evDr C dr) (fun id ops => drawChk ops (dr id)) := by
  intro β n s a w id ops K Q hc hgl hs he hQ hP
  unfold drawChk at hc
  rw [Bool.and_eq_true, Bool.and_eq_true] at hc
  obtain ⟨h1, h2, h3⟩ := hc
  have h2 : (dr id).length = ops.size := Nat.eq_of_beq_eq_true h2
  refine wp_region_held (S := Grew { w with drawn := w.drawn + 1 }) ok.mix ?_
  rw [← h2]
  have hg : Grew w { w with drawn := w.drawn + 1 } := ⟨rfl, rfl, rfl, Nat.le_refl _, fun _ _ _ => rfl, fun _ _ _ _ => ⟨rfl, rfl⟩⟩
  exact draw1_ok ok hgl hQ hP h1 (dr id) _ s a (h2 ▸ h3) he (hs.grew hg)
/-- THE EVALUATOR IS RIGHT. -/
theorem fn_right (ok : CxOk C) (dr : Nat → List (Nat × Bool)) {f : Nat} {fn : Func} (hf : C.P.funcs[f]? = some fn) (hch : ∀ c, fn.body = some c → drawsOk (fun id ops => drawChk ops (dr id)) c = true) {args : List V} {obs : List Ob} {Q : List V → List Ob → Prop} (he : fnP C (evDr C dr) fn args obs Q) : Fn C.P C.gl f args obs Q :=
  fn_sound ok (draw_ok ok dr) hf hch he
end
end Ev
namespace Ev
open Go Go.RowKit
set_option linter.unusedVariables false
set_option linter.unusedSimpArgs false
section
variable {P : Program} {ops : Array Oper} {Q : Exit → Act → World → Prop} {B : Nat → Bool}

/-- Whatever order is picked: S holds behind every operation; behind one of B another S may be picked. -/
def wpAnyC (P : Program) (ops : Array Oper) (Q : Exit → Act → World → Prop) (B : Nat → Bool) : Nat → Array Bool → (World → Prop) → Act → World → Prop
  | 0, L, S, a, w => Region.ready .any ops L = [] ∧ Q .normal a w
  | n + 1, L, S, a, w => (Region.ready .any ops L = [] → Q .normal a w) ∧ ∀ j ∈ Region.ready .any ops L, wpOp P ops Q j (fun a' w' => ∃ S' : World → Prop, (B j = false → S' = S) ∧ S' w' ∧ wpAnyC P ops Q B n (L.setIfInBounds j true) S' a' w') a w
theorem anyC : ∀ (n : Nat) (L : Array Bool) (S : World → Prop) (a : Act) (w : World), wpAnyC P ops Q B n L S a w → wpAny P .any ops Q n L a w
  | 0, L, S, a, w, h => h
  | n + 1, L, S, a, w, h => ⟨h.1, fun j hj => wpOp_mono (fun a' w' ⟨S', _, _, h'⟩ => anyC n _ S' a' w' h') (h.2 j hj)⟩
/-- What is listed waits for nothing. -/
def Closed (ops : Array Oper) (L : Array Bool) : Prop := ∀ (j : Nat) (o : Oper), ops[j]? = some o → L.getD j false = true → ∀ e ∈ o.after, Region.binds .any e = true → L.getD e.on false = true
theorem Closed.set {L : Array Bool} (h : Closed ops L) {j : Nat} (hj : j ∈ Region.ready .any ops L) : Closed ops (L.setIfInBounds j true) := by
  intro k o ho hk e he hb
  refine getD_set_true ?_
  by_cases e1 : j = k
  · subst e1
    obtain ⟨_, o', ho', hall⟩ := mem_ready.1 hj
    rw [ho] at ho'
    obtain rfl := Option.some.inj ho'
    exact hall e he hb
  · rw [getD_set_ne false e1] at hk
    exact h k o ho hk e he hb
/-- j waits for i, if by others. -/
def waits (ops : Array Oper) : Nat → Nat → Nat → Bool
  | 0, _, _ => false
  | n + 1, j, i => match ops[j]? with
    | some o => o.after.any fun e => Region.binds .any e && (Nat.beq e.on i || waits ops n e.on i)
    | none => false
theorem waits_no {L : Array Bool} (hc : Closed ops L) {i : Nat} (hi : L.getD i false = false) : ∀ (n j : Nat), waits ops n j i = true → (∀ o, ops[j]? = some o → ∀ e ∈ o.after, Region.binds .any e = true → L.getD e.on false = true) → False
  | 0, j, h, _ => by cases h
  | n + 1, j, h, hall => by
    unfold waits at h
    split at h
    case h_2 => cases h
    rename_i _ o ho
    rw [Array.any_eq_true'] at h
    obtain ⟨e, he, hb⟩ := h
    rw [Bool.and_eq_true, Bool.or_eq_true] at hb
    have hl := hall o ho e he hb.1
    rcases hb.2 with h1 | h1
    · rw [Nat.eq_of_beq_eq_true h1] at hl
      rw [hl] at hi; cases hi
    · exact waits_no hc hi n e.on h1 (fun o' ho' => hc e.on o' ho' hl)
theorem getD_ff {L : Array Bool} {i : Nat} (h : L.getD i true = false) : L.getD i false = false := by
  rw [Array.getD_eq_getD_getElem?] at h ⊢
  cases hc : L[i]? with
  | none => rfl
  | some b => rw [hc] at h; exact h
theorem takeC {i : Nat} {oi : Oper} {v : Value} (hi : ops[i]? = some oi) (hsel : Region.noSelect ops = true) (hQ : ∀ c a w, Q (.panic c) (a.put oi.dst v) w → Q (.panic c) a w) {Y : World → Prop} {N : Nat} :
    ∀ (n : Nat) (L : Array Bool) (S : World → Prop) (a : Act) (w : World), Closed ops L → (∀ (j : Nat) (oj : Oper), ops[j]? = some oj → j ≠ i → L.getD j true = false → (∀ e ∈ oj.after, Region.binds .any e = true → e.on ≠ i) → oi.apart ops oj = true) →
      i ∈ Region.ready .any ops L → (∀ w, S w → Y w) → ((∀ w, Y w) ∨ ∀ j, j < ops.size → j ≠ i → B j = true → L.getD j true = false → waits ops N j i = true) → YieldsIf P ops Y oi v a → S w → wpAnyC P ops Q B n (L.setIfInBounds i true) S (a.put oi.dst v) w → wpAnyC P ops Q B (n + 1) L S a w
  | 0, L, S, a, w, hcl, hfree, hr, hSY, hB, hy, hS, H => by
    refine ⟨fun h => (by rw [h] at hr; cases hr), fun j hj => ?_⟩
    by_cases hji : j = i
    · subst hji; exact hy.wpOp hi (hSY w hS) ⟨S, fun _ => rfl, hS, H⟩
    · have := ready_mono hj hji
      rw [H.1] at this; cases this
  | n + 1, L, S, a, w, hcl, hfree, hr, hSY, hB, hy, hS, H => by
    refine ⟨fun h => (by rw [h] at hr; cases hr), fun j hj => ?_⟩
    by_cases hji : j = i
    · subst hji; exact hy.wpOp hi (hSY w hS) ⟨S, fun _ => rfl, hS, H⟩
    obtain ⟨hun, oj, hoj, hall⟩ := mem_ready.1 hj
    have hiun := getD_ff (mem_ready.1 hr).1
    have hnot : ∀ e ∈ oj.after, Region.binds .any e = true → e.on ≠ i := fun e he hb heq => by
      have := heq ▸ hall e he hb
      rw [hiun] at this; cases this
    have step := wpOp_putIf hoj (hfree j oj hoj hji hun hnot) (fun cs b => Region.noSelect_spec hsel i oi cs b hi) (fun cs b => Region.noSelect_spec hsel j oj cs b hoj) hQ hy (H.2 j (ready_mono hj hji))
    refine wpOp_mono (fun a' w' h => ?_) step
    obtain ⟨hy', S', h1, h2, h3⟩ := h
    have hS' : (∀ w, S' w → Y w) ∧ ((∀ w, Y w) ∨ ∀ k, k < ops.size → k ≠ i → B k = true → (L.setIfInBounds j true).getD k true = false → waits ops N k i = true) := by
      cases hb : B j with
      | false =>
        rw [h1 hb]
        refine ⟨hSY, hB.imp id fun hB k hkl hki hbk hun' => hB k hkl hki hbk ?_⟩
        by_cases e : j = k
        · subst e; rw [hb] at hbk; cases hbk
        · rw [getD_set_ne true e] at hun'; exact hun'
      | true =>
        rcases hB with hB | hB
        · exact ⟨fun w _ => hB w, .inl hB⟩
        · exact (waits_no hcl hiun N j (hB j (Array.getElem?_eq_some_iff.1 hoj).1 hji hb hun) (fun o ho => by rw [hoj] at ho; obtain rfl := Option.some.inj ho; exact hall)).elim
    refine ⟨S', h1, h2, takeC hi hsel hQ n _ S' a' w' (hcl.set hj) (fun k ok hk hki hun' hno => hfree k ok hk hki ?_ hno) (ready_mono hr (Ne.symm hji)) hS'.1 hS'.2 hy' h2 ?_⟩
    · by_cases e : j = k
      · subst e; exact hun
      · rw [getD_set_ne true e] at hun'; exact hun'
    · rw [Array.setIfInBounds_comm _ _ hji]; exact h3
theorem allC {i : Nat} {n : Nat} {L : Array Bool} {S : World → Prop} {a : Act} {w : World} (hr : Region.ready .any ops L = [i]) (h : wpOp P ops Q i (fun a' w' => ∃ S' : World → Prop, (B i = false → S' = S) ∧ S' w' ∧ wpAnyC P ops Q B n (L.setIfInBounds i true) S' a' w') a w) : wpAnyC P ops Q B (n + 1) L S a w := by
  refine ⟨fun h0 => (by rw [hr] at h0; cases h0), fun j hj => ?_⟩
  rw [hr] at hj
  obtain rfl := List.mem_singleton.1 hj
  exact h
end

/-- What an operation answers hangs on no cell. -/
def anyW : Op → Bool
  | .move _ => true
  | .assign _ => true
  | .pick _ _ _ => true
  | .extract _ _ => true
  | .field _ _ _ => true
  | .nilCheck _ => true
  | .fieldAddr _ _ _ => true
  | .indexAddr _ _ _ => true
  | .binOp _ _ _ _ _ => true
  | .unOp _ _ _ => true
  | .build _ _ => true
  | .makeFunc _ _ _ => true
  | .call c => match c.callee with
    | .builtin .len => true
    | _ => false
  | _ => false

/-- An order for a region, or orders where it matters. one: this one is next (flags: 0 alone, 1 first, 2 alone, and it turns something, 3 first, and it hangs on no cell); alt: it, or one of those that follow. -/
inductive Tr where
  | done
  | one (i fl : Nat) (t : Tr)
  | alt (i fl : Nat) (t u : Tr)
  | none
/-- One operation. h: what stood at the region's beginning, or behind the last operation that turned something others look at; none: nothing turned since. -/
def stepC (C : Cx) (ops : List Oper) (i fl : Nat) : Option St → St → (Option St → St → Prop) → Prop
  | none, s, K => match ops[i]? with
    | none => False
    | some o => match kindO o.op with
      | 0 => guardP ops s o (fun s => pureP C s o fun v => putP s o.dst v fun s => K none s) (fun s => putP s o.dst (.sc undef) fun s => K none s)
      | _ => match fl with
        | 2 => guardP ops s o (fun s => opP C s o fun s => K none s) (fun s => putP s o.dst (.sc undef) fun s => K none s)
        | 0 => guard2P ops s s o (fun h s => match o.op with
          | .box t x => boxP C s t x o.dst fun s => putP h o.dst (stripV (dstV s o.dst)) fun h => K (some h) s
          | .alloc t => allocP C s t o.dst fun s => putP h o.dst (stripV (dstV s o.dst)) fun h => K (some h) s
          | .buildSlice t len ps => buildSliceP C s t len ps.toList o.dst fun s => putP h o.dst (stripV (dstV s o.dst)) fun h => K (some h) s
          | .call c => match c.callee with
            | .value f => match s.opd f with
              | .fn g _ => match noGiven (C.md g) with
                | true => evCallP C s f c.args.toList o.dst fun s => putP h o.dst (stripV (dstV s o.dst)) fun h => K (some h) s
                | false => False
              | _ => False
            | _ => False
          | _ => False) (fun h s => putP h o.dst (.sc undef) fun h => putP s o.dst (.sc undef) fun s => K (some h) s)
        | _ => False
  | some h, s, K => match ops[i]? with
    | none => False
    | some o => guard2P ops h s o (fun h s => match kindO o.op with
      | 0 => match fl with
        | 1 => pureP C h o fun u => pureP C s o fun v => putP h o.dst u fun h => putP s o.dst v fun s => K (some h) s
        | _ => pureP C s o fun v => putP h o.dst (stripV v) fun h => putP s o.dst v fun s => K (some h) s
      | _ => match fl with
        | 2 => opP C s o fun s => K none s
        | 0 => match o.op with
          | .box t x => boxP C s t x o.dst fun s => putP h o.dst (stripV (dstV s o.dst)) fun h => K (some h) s
          | .alloc t => allocP C s t o.dst fun s => putP h o.dst (stripV (dstV s o.dst)) fun h => K (some h) s
          | .buildSlice t len ps => buildSliceP C s t len ps.toList o.dst fun s => putP h o.dst (stripV (dstV s o.dst)) fun h => K (some h) s
          | .call c => match c.callee with
            | .value f => match s.opd f with
              | .fn g _ => match noGiven (C.md g) with
                | true => evCallP C s f c.args.toList o.dst fun s => putP h o.dst (stripV (dstV s o.dst)) fun h => K (some h) s
                | false => False
              | _ => False
            | _ => False
          | _ => False
        | _ => False) (fun h s => putP h o.dst (.sc undef) fun h => putP s o.dst (.sc undef) fun s => K (some h) s)
def drawC (C : Cx) (ops : List Oper) : Tr → Option St → St → (St → Prop) → Prop
  | .done, _, s, K => K s
  | .one i fl t, h, s, K => stepC C ops i fl h s fun h s => drawC C ops t h s K
  | .alt i fl t u, h, s, K => stepC C ops i fl h s (fun h s => drawC C ops t h s K) ∧ drawC C ops u h s K
  | .none, _, _, _ => True
def Tr.forks : Tr → Bool
  | .done => false
  | .one _ _ t => t.forks
  | .alt _ _ _ _ => true
  | .none => false
def dsts : List Oper → List Nat → List Nat
  | [], l => l
  | o :: os, l => match o.dst with
    | some d => dsts os (d :: l)
    | none => dsts os l
def trB : Tr → Nat → Bool
  | .done, _ => false
  | .one i fl t, j => (Nat.beq i j && Nat.beq fl 2) || trB t j
  | .alt i fl t u, j => (Nat.beq i j && Nat.beq fl 2) || (trB t j || trB u j)
  | .none, _ => false
def waitC (ops : Array Oper) (B : Nat → Bool) (L : Array Bool) (i : Nat) : Bool := (List.range ops.size).all fun j => Nat.beq j i || (!B j || (L.getD j true || waits ops ops.size j i))
def trOne (ops : Array Oper) (B : Nat → Bool) (L : Array Bool) (i : Nat) : Nat → Bool
  | 0 => Region.ready .any ops L == [i]
  | 1 => Region.free .any ops L i && ((Region.ready .any ops L).contains i && waitC ops B L i)
  | 2 => Region.ready .any ops L == [i] && B i
  | 3 => Region.free .any ops L i && ((Region.ready .any ops L).contains i && (match ops[i]? with
    | some o => anyW o.op
    | none => false))
  | _ => false
def chkT (ops : Array Oper) (B : Nat → Bool) : Tr → Nat → Array Bool → List Nat → Bool
  | .done, n, L, sn => Nat.beq n 0 && ((Region.ready .any ops L).isEmpty && sn.isEmpty)
  | .one i fl t, n + 1, L, sn => sn.isEmpty && (trOne ops B L i fl && chkT ops B t n (L.setIfInBounds i true) [])
  | .alt i fl t u, n + 1, L, sn => (Region.ready .any ops L).contains i && ((Nat.beq fl 0 || (Nat.beq fl 2 && B i)) && (chkT ops B t n (L.setIfInBounds i true) [] && chkT ops B u (n + 1) L (i :: sn)))
  | .none, _, L, sn => !sn.isEmpty && (Region.ready .any ops L).all fun j => sn.contains j
  | _, _, _, _ => false
/-- These orders may stand for all. -/
def drawChkC (ops : Array Oper) (t : Tr) : Bool := Region.noSelect ops && chkT ops (trB t) t ops.size (Array.replicate ops.size false) []
def evDrC (C : Cx) (dr : Nat → Tr) : Nat → List Oper → St → (St → Prop) → Prop := fun id ops s K => match (dr id).forks with
  | false => drawC C ops (dr id) none s K
  | true => RegP (fun I => drawC C ops (dr id) none s fun t => canonK (dsts ops (C.keep id)) t I) K

section
variable {β : Base} {s : St} {a : Act} {w : World} {g : Gh} {pm : Nat → Nat → Option (Nat × Path)} {C : Cx} {n : Nat}
theorem pureW_ok (ok : CxOk C) (h : R β s a w g pm) {o : Oper} (hw : anyW o.op = true) {K : V → Prop} (hk : pureP C s o K) :
    ∃ v z, (∀ w', (execOp a.eval o).run C.P w' = .ok (.value z) w') ∧ VR w (okc β pm) g s.len v z ∧ K v := by
  obtain ⟨dst, op, type, pos, after, guard⟩ := o
  unfold pureP at hk
  dsimp only at hk hw
  unfold execOp
  cases op <;> dsimp only at hk ⊢ <;> (try (cases hw; done))
  case move x => exact ⟨_, _, fun _ => rfl, h.opd x, hk⟩
  case assign x => exact ⟨_, _, fun _ => rfl, h.opd x, hk⟩
  case pick c p q =>
    unfold pickP at hk
    split at hk
    case h_2 => exact hk.elim
    rename_i _ t hc
    have hcc := h.opd c
    rw [hc] at hcc
    cases t with
    | true => exact ⟨_, _, fun w' => by simp [hcc.sc_inv, asBool], h.opd p, hk⟩
    | false => exact ⟨_, _, fun w' => by simp [hcc.sc_inv, asBool], h.opd q, hk⟩
  case extract x i =>
    split at hk
    case h_2 => exact hk.elim
    rename_i vs hx
    obtain ⟨v, e, hk⟩ := optP_some hk
    have hxx := h.opd x
    rw [hx] at hxx
    generalize a.eval x = z at hxx
    cases hxx with
    | tup vs xs hl hh =>
      have hi : i < vs.length := (List.getElem?_eq_some_iff.1 e).1
      exact ⟨v, xs[i], fun w' => by simp [Instr.extract, List.getElem?_eq_getElem (show i < xs.length by omega)], hh i v _ e (List.getElem?_eq_getElem (by omega)), hk⟩
  case field t x f =>
    obtain ⟨v, z, e, hz, hk⟩ := fieldP_ok ok (h.opd x) hk
    exact ⟨v, z, fun w' => by simp [e w'], hz, hk⟩
  case nilCheck x =>
    have hx := h.opd x
    unfold nilP at hk
    generalize s.opd x = u at hx hk
    generalize a.eval x = z at hx
    refine ⟨u, z, fun w' => ?_, hx, ?_⟩
    · cases hx <;> first | rfl | exact hk.elim
    · cases hx <;> first | exact hk | exact hk.elim
  case binOp op t x y t' =>
    split at hk
    · rename_i us hu
      split at hk
      case h_2 => exact hk.elim
      rename_i _ ns hns
      split at hk
      case h_2 => exact hk.elim
      rename_i vs hv
      have hx := h.opd x
      rw [hu] at hx
      have hy := h.opd y
      rw [hv] at hy
      split at hk
      · obtain ⟨b, e, hk⟩ := optP_some hk
        have gg := eqTy_ok (ok.eqt t ns hns) e hx hy x y
        exact ⟨_, .bool b, fun w' => by obtain ⟨g1, g2, g3, g4⟩ := gg w'; simp [g1, g3], .sc _, hk⟩
      · obtain ⟨b, e, hk⟩ := optP_some hk
        have gg := eqTy_ok (ok.eqt t ns hns) e hx hy x y
        exact ⟨_, .bool (!b), fun w' => by obtain ⟨g1, g2, g3, g4⟩ := gg w'; simp [g2, g4], .sc _, hk⟩
      · exact hk.elim
    · obtain ⟨v, z, e, hz, hk⟩ := binV_ok ok (X := x) (Y := y) (h.opd x) (h.opd y) hk
      refine ⟨v, z, fun w' => ?_, hz, hk⟩
      rw [Sem.run_bind, e w']; rfl
  case unOp op t x =>
    obtain ⟨v, e, hk⟩ := optP_some hk
    obtain ⟨z, e, hz⟩ := evUn_ok (P := C.P) (h.opd x) e
    exact ⟨v, z, fun w' => by simp [e w'], hz, hk⟩
  case fieldAddr t x f =>
    obtain ⟨v, e, hk⟩ := optP_some hk
    obtain ⟨z, e, hz⟩ := evFieldAddr_ok (C := C.c) ok.ty (h.opd x) e
    have e : ∀ w', (Instr.fieldAt t (a.eval x) f).run C.P w' = .ok z w' := e
    exact ⟨v, z, fun w' => by simp [e w'], hz, hk⟩
  case indexAddr t x i =>
    obtain ⟨v, e, hk⟩ := idxP_ev hk
    obtain ⟨z, e, hz⟩ := evIndexAddr_ok (C := C.c) ok.ty h (h.opd x) (h.opd i) e
    have e : ∀ w', (Instr.indexAt t (a.eval x) (a.eval i)).run C.P w' = .ok z w' := e
    exact ⟨v, z, fun w' => by simp [e w'], hz, hk⟩
  case build t ps =>
    obtain ⟨v, z, e, hz, hk⟩ := buildP_ok ok h hk
    exact ⟨v, z, fun w' => by simp [e w'], hz, hk⟩
  case makeFunc fn fs cs =>
    split at hk
    case h_2 => exact hk.elim
    rename_i f hfs
    refine ⟨_, _, fun _ => rfl, ?_, hk⟩
    have e : fs.map a.eval = #[] := by
      have : fs = #[] := by cases fs; simpa using hfs
      rw [this]; simp
    rw [e]
    have hl := h.opds cs.toList
    have := VR.fn (w := w) (ok := okc β pm) (g := g) (at_ := s.len) f (cs.toList.map s.opd) (cs.toList.map a.eval) (by simp) hl.2
    have e2 : (cs.toList.map a.eval).toArray = cs.map a.eval := by apply Array.ext'; simp
    rw [e2] at this
    exact this
  case call c =>
    obtain ⟨callee, args, argTypes⟩ := c
    unfold anyW at hw
    dsimp only at hk hw
    split at hw
    case h_2 => cases hw
    dsimp only at hk
    split at hk
    case h_2 => exact hk.elim
    rename_i x t e1 e2
    obtain rfl : args = #[x] := by cases args; simpa using e1
    obtain rfl : argTypes = #[t] := by cases argTypes; simpa using e2
    rcases lenP_ev hk with ⟨sz, zz, by_, b, ht, hx, hk⟩ | ⟨sz, e, zz, by_, n, ht, hx, hk⟩
    · obtain ⟨info, d, z, h1, h2, h3, h4⟩ := ty_info (ok.ty t _ ht)
      simp only [TyI.mk.injEq] at h4
      obtain rfl := knOf_str h4.2.1.symm
      have hxx := h.opd x
      rw [hx] at hxx
      refine ⟨_, _, fun w' => ?_, .sc _, hk⟩
      simp [resolve, invoke, builtin, hxx.sc_inv, Builtin.len_, run_underlying h2, goInt]
    · obtain ⟨info, d, z, h1, h2, h3, h4⟩ := ty_info (ok.ty t _ ht)
      simp only [TyI.mk.injEq] at h4
      obtain rfl := knOf_slice h4.2.1.symm
      refine ⟨_, _, fun w' => ?_, .sc _, hk⟩
      have := evLen_ok (T := type) (C := C.c) ok.ty h (h.opd x) h2 hx w'
      have this : (Builtin.len_ #[t] type #[a.eval x]).run C.P w' = .ok (.int .i64 n) w' := this
      simp [resolve, invoke, builtin, this]

theorem wpOp_yes {ops : Array Oper} {Q : Exit → Act → World → Prop} {i : Nat} {o : Oper} {K : Act → World → Prop} (hi : ops[i]? = some o) (hw : Region.wanted o (yielded ops a.tmps) = true) (h : o.wp C.P a w K Q) : wpOp C.P ops Q i K a w := by
  unfold wpOp
  rw [hi]
  dsimp only
  rw [if_pos hw]
  exact .inl h
theorem wpOp_no {ops : Array Oper} {Q : Exit → Act → World → Prop} {i : Nat} {o : Oper} {K : Act → World → Prop} (hi : ops[i]? = some o) (hw : Region.wanted o (yielded ops a.tmps) = false) (h : K (a.put o.dst undef) w) : wpOp C.P ops Q i K a w := by
  unfold wpOp
  rw [hi]
  dsimp only
  rw [if_neg (by rw [hw]; simp)]
  exact h
theorem waitC_spec {ops : Array Oper} {B : Nat → Bool} {L : Array Bool} {i : Nat} (h : waitC ops B L i = true) : ∀ j, j < ops.size → j ≠ i → B j = true → L.getD j true = false → waits ops ops.size j i = true := by
  intro j hlt hj hb hl
  unfold waitC at h
  rw [List.all_eq_true] at h
  have := h j (List.mem_range.2 hlt)
  rw [hb, hl] at this
  simpa [hj] using this
/-- A value that was put, in the state that is looked back to. -/
theorem put_back {m : Nat} {h2 s2 : St} {w0 w' : World} (hh : Is β m h2 a w0) {dst : Option Nat} {x : Value} (hs : Is β n s2 (a.put dst x) w') {K : St → Prop} (he : putP h2 dst (stripV (dstV s2 dst)) K) : Now β m (a.put dst x) w0 K := by
  obtain ⟨hm1, g1, pm1, hR1⟩ := hh
  cases dst with
  | none => exact putP_ok hR1 hm1 (.dead x) (putP_none he)
  | some d =>
    have hlt : d < a.tmps.size := by rw [hR1.fsz]; exact putP_lt he
    obtain ⟨_, g3, pm3, hR3⟩ := hs
    have ht := hR3.tm d
    have hx : (a.put (some d) x).tmps.getD d undef = x := by
      show (a.tmps.setIfInBounds d x).getD d undef = x
      simp [Array.getD, hlt]
    rw [hx] at ht
    exact putP_ok hR1 hm1 (strip_ok ht) he

/-- What is so between two operations: at the beginning, or behind what turned something, it was w0. -/
structure Mid (β : Base) (n : Nat) (h : Option St) (s : St) (a : Act) (w0 w : World) : Prop where
  here : Is β n s a w
  back : match h with
    | none => w0 = w
    | some h => Is β n h a w0
  grew : Grew w0 w
/-- What an operation that turns nothing answers. -/
def Quiet (P : Program) (ops : Array Oper) (o : Oper) (fl : Nat) (z : Value) (a : Act) (w0 w : World) : Prop :=
  (Region.wanted o (yielded ops a.tmps) = true ∧ (∀ w', Grew w0 w' → fl = 1 → (execOp a.eval o).run P w' = .ok (.value z) w') ∧ (∀ w', fl = 3 → (execOp a.eval o).run P w' = .ok (.value z) w') ∧ (execOp a.eval o).run P w = .ok (.value z) w) ∨ (Region.wanted o (yielded ops a.tmps) = false ∧ z = undef)
theorem Quiet.wpOp {ops : Array Oper} {o : Oper} {fl : Nat} {z : Value} {w0 : World} {Q : Exit → Act → World → Prop} {i : Nat} {K : Act → World → Prop} (hi : ops[i]? = some o) (h : Quiet C.P ops o fl z a w0 w) (k : K (a.put o.dst z) w) : wpOp C.P ops Q i K a w := by
  rcases h with ⟨hw, _, _, h3⟩ | ⟨hw, rfl⟩
  · exact wpOp_yes hi hw (wp_value h3 k)
  · exact wpOp_no hi hw k
/-- One operation: it turns nothing, or it is carried out. -/
theorem stepC_ok (ok : CxOk C) (hgl : GlOk β C.gl) {ops : Array Oper} {Q : Exit → Act → World → Prop} {i fl : Nat} {o : Oper} (hi : ops[i]? = some o) (h3 : fl = 3 → anyW o.op = true) {h : Option St} {w0 : World} {K : Option St → St → Prop} (he : stepC C ops.toList i fl h s K) (hm : Mid β n h s a w0 w) :
    (∃ z h' s', Quiet C.P ops o fl z a w0 w ∧ K h' s' ∧ Mid β n h' s' (a.put o.dst z) w0 w) ∨
    ((fl = 0 ∨ fl = 2) ∧ wpOp C.P ops Q i (fun a' w' => ∃ w1 h' s', (fl ≠ 2 → w1 = w0) ∧ K h' s' ∧ Mid β n h' s' a' w1 w') a w) := by
  have hi' : ops.toList[i]? = some o := by simpa using hi
  obtain ⟨hs, hh, hg⟩ := hm
  have loud : fl = 2 → ∀ {s1 : St}, Region.wanted o (yielded ops a.tmps) = true → Is β n s1 a w → opP C s1 o (fun s => K none s) → wpOp C.P ops Q i (fun a' w' => ∃ w1 h' s', (fl ≠ 2 → w1 = w0) ∧ K h' s' ∧ Mid β n h' s' a' w1 w') a w := fun h2 s1 hw hs1 hee => 
    wpOp_yes hi hw (opP_ok ok hgl hs1 hee (fun a' w' ⟨s', h', he'⟩ => ⟨w', none, s', fun hne => absurd h2 hne, he', ⟨h', rfl, Grew.refl w'⟩⟩))
  have makes : ∀ {h1 : St} {z : Value} {w' : World}, (execOp a.eval o).run C.P w = .ok (.value z) w' → Grew w w' → Region.wanted o (yielded ops a.tmps) = true → Is β n h1 a w0 → Now β n (a.put o.dst z) w' (fun s => putP h1 o.dst (stripV (dstV s o.dst)) fun h => K (some h) s) →
      wpOp C.P ops Q i (fun a' w' => ∃ w1 h' s', (fl ≠ 2 → w1 = w0) ∧ K h' s' ∧ Mid β n h' s' a' w1 w') a w := fun {h1 z w'} hr hgw hw hh1 hnow => by
    obtain ⟨s2, hs2, hee⟩ := hnow
    obtain ⟨h2, hh2, hee⟩ := put_back hh1 hs2 hee
    exact wpOp_yes hi hw (wp_value hr ⟨w0, some h2, s2, fun _ => rfl, hee, ⟨hs2, hh2, hg.trans hgw⟩⟩)
  have calls : ∀ {h1 s1 : St} {c : Call} {F : Operand} {gf : Nat} {cs : List V}, o.op = .call c → c.callee = .value F → s1.opd F = .fn gf cs → noGiven (C.md gf) = true → Region.wanted o (yielded ops a.tmps) = true → Is β n h1 a w0 → Is β n s1 a w →
      evCallP C s1 F c.args.toList o.dst (fun s => putP h1 o.dst (stripV (dstV s o.dst)) fun h => K (some h) s) → wpOp C.P ops Q i (fun a' w' => ∃ w1 h' s', (fl ≠ 2 → w1 = w0) ∧ K h' s' ∧ Mid β n h' s' a' w1 w') a w := fun {h1 s1 c F gf cs} hop hc hf hng hw hh1 hs1 hee =>
    wpOp_yes hi hw (evCallQ_ok ok hgl hs1 hop hc hee hf hng (fun x w' hnow hgw => by
      obtain ⟨s2, hs2, hee⟩ := hnow
      obtain ⟨h2, hh2, hee⟩ := put_back hh1 hs2 hee
      exact ⟨w0, some h2, s2, fun _ => rfl, hee, ⟨hs2, hh2, hg.trans hgw⟩⟩))
  cases h with
  | none =>
    dsimp only at hh
    subst hh
    unfold stepC at he
    rw [hi'] at he
    dsimp only at he
    split at he
    · rename_i hk
      rcases guardP_ok hs he with ⟨hw, s1, hs1, he⟩ | ⟨hw, s1, hs1, he⟩
      · obtain ⟨hn1, g1, pm1, hR1⟩ := hs1
        by_cases hf3 : fl = 3
        · obtain ⟨v, z, z1, z2, he⟩ := pureW_ok ok hR1 (h3 hf3) he
          obtain ⟨s2, hs2, he⟩ := putP_ok hR1 hn1 z2 he
          exact .inl ⟨z, none, s2, .inl ⟨hw, fun w' _ _ => z1 w', fun w' _ => z1 w', z1 _⟩, he, ⟨hs2, rfl, Grew.refl _⟩⟩
        · obtain ⟨v, z, z1, z2, he⟩ := pureP_ok ok hR1 he
          obtain ⟨s2, hs2, he⟩ := putP_ok hR1 hn1 z2 he
          exact .inl ⟨z, none, s2, .inl ⟨hw, fun w' hg' _ => z1 w' hg'.kp, fun w' h => absurd h hf3, z1 _ (Kp.refl _)⟩, he, ⟨hs2, rfl, Grew.refl _⟩⟩
      · obtain ⟨hn1, g1, pm1, hR1⟩ := hs1
        obtain ⟨s2, hs2, he⟩ := putP_ok hR1 hn1 (z := undef) (.sc _) he
        exact .inl ⟨undef, none, s2, .inr ⟨hw, rfl⟩, he, ⟨hs2, rfl, Grew.refl _⟩⟩
    · split at he
      · rcases guardP_ok hs he with ⟨hw, s1, hs1, he⟩ | ⟨hw, s1, hs1, he⟩
        · exact .inr ⟨.inr rfl, loud rfl hw hs1 he⟩
        · obtain ⟨hn1, g1, pm1, hR1⟩ := hs1
          obtain ⟨s2, hs2, he⟩ := putP_ok hR1 hn1 (z := undef) (.sc _) he
          exact .inl ⟨undef, none, s2, .inr ⟨hw, rfl⟩, he, ⟨hs2, rfl, Grew.refl _⟩⟩
      · rcases guard2P_ok hs hs he with ⟨hw, h1, s1, hh1, hs1, he⟩ | ⟨hw, h1, s1, hh1, hs1, he⟩
        · split at he
          · rename_i t x hop
            obtain ⟨z, w', r1, r2, r3⟩ := boxP_ok hs1 he
            exact .inr ⟨.inl rfl, makes (by unfold execOp; rw [hop]; simp [r1]) r3 hw hh1 r2⟩
          · rename_i t hop
            obtain ⟨z, w', r1, r2, r3⟩ := allocP_ok ok hs1 he
            exact .inr ⟨.inl rfl, makes (by unfold execOp; rw [hop]; simp [r1]) r3 hw hh1 r2⟩
          · rename_i t len ps hop
            obtain ⟨z, w', r1, r2, r3⟩ := buildSliceP_ok ok hs1 he
            exact .inr ⟨.inl rfl, makes (by unfold execOp; rw [hop]; simp [r1]) r3 hw hh1 r2⟩
          · rename_i c hop
            split at he
            case h_2 => exact he.elim
            rename_i _ F hc
            split at he
            case h_2 => exact he.elim
            rename_i _ gf cs hf
            split at he
            case h_2 => exact he.elim
            rename_i hng
            exact .inr ⟨.inl rfl, calls hop hc hf hng hw hh1 hs1 he⟩
          · exact he.elim
        · obtain ⟨hm1, g1, pm1, hR1⟩ := hh1
          obtain ⟨hn1, g2, pm2, hR2⟩ := hs1
          obtain ⟨h2, hh2, he⟩ := putP_ok hR1 hm1 (z := undef) (.sc _) he
          obtain ⟨s2, hs2, he⟩ := putP_ok hR2 hn1 (z := undef) (.sc _) he
          exact .inl ⟨undef, some h2, s2, .inr ⟨hw, rfl⟩, he, ⟨hs2, hh2, Grew.refl _⟩⟩
      · exact he.elim
  | some h =>
    dsimp only at hh
    unfold stepC at he
    rw [hi'] at he
    dsimp only at he
    rcases guard2P_ok hh hs he with ⟨hw, h1, s1, hh1, hs1, he⟩ | ⟨hw, h1, s1, hh1, hs1, he⟩
    · split at he
      · rename_i hk
        split at he
        · obtain ⟨hm1, g1, pm1, hR1⟩ := hh1
          obtain ⟨hn1, g2, pm2, hR2⟩ := hs1
          obtain ⟨u, z, z1, z2, he⟩ := pureP_ok ok hR1 he
          obtain ⟨v, y, y1, y2, he⟩ := pureP_ok ok hR2 he
          have hzy : z = y := by
            have e1 := z1 w hg.kp
            have e2 := y1 w (Kp.refl w)
            rw [e1] at e2
            injection e2 with e2 _
            injection e2
          subst hzy
          obtain ⟨h2, hh2, he⟩ := putP_ok hR1 hm1 z2 he
          obtain ⟨s2, hs2, he⟩ := putP_ok hR2 hn1 y2 he
          exact .inl ⟨z, some h2, s2, .inl ⟨hw, fun w' hg' _ => z1 w' hg'.kp, (fun w' h => by cases h), y1 _ (Kp.refl _)⟩, he, ⟨hs2, hh2, hg⟩⟩
        · rename_i hne
          obtain ⟨hm1, g1, pm1, hR1⟩ := hh1
          obtain ⟨hn1, g2, pm2, hR2⟩ := hs1
          by_cases hf3 : fl = 3
          · obtain ⟨v, z, z1, z2, he⟩ := pureW_ok ok hR2 (h3 hf3) he
            obtain ⟨h2, hh2, he⟩ := putP_ok hR1 hm1 (strip_ok z2) he
            obtain ⟨s2, hs2, he⟩ := putP_ok hR2 hn1 z2 he
            exact .inl ⟨z, some h2, s2, .inl ⟨hw, fun w' _ _ => z1 w', fun w' _ => z1 w', z1 _⟩, he, ⟨hs2, hh2, hg⟩⟩
          · obtain ⟨v, z, z1, z2, he⟩ := pureP_ok ok hR2 he
            obtain ⟨h2, hh2, he⟩ := putP_ok hR1 hm1 (strip_ok z2) he
            obtain ⟨s2, hs2, he⟩ := putP_ok hR2 hn1 z2 he
            exact .inl ⟨z, some h2, s2, .inl ⟨hw, fun w' _ h => absurd h (by intro e; exact hne e), fun w' h => absurd h hf3, z1 _ (Kp.refl _)⟩, he, ⟨hs2, hh2, hg⟩⟩
      · split at he
        · exact .inr ⟨.inr rfl, loud rfl hw hs1 he⟩
        · split at he
          · rename_i t x hop
            obtain ⟨z, w', r1, r2, r3⟩ := boxP_ok hs1 he
            exact .inr ⟨.inl rfl, makes (by unfold execOp; rw [hop]; simp [r1]) r3 hw hh1 r2⟩
          · rename_i t hop
            obtain ⟨z, w', r1, r2, r3⟩ := allocP_ok ok hs1 he
            exact .inr ⟨.inl rfl, makes (by unfold execOp; rw [hop]; simp [r1]) r3 hw hh1 r2⟩
          · rename_i t len ps hop
            obtain ⟨z, w', r1, r2, r3⟩ := buildSliceP_ok ok hs1 he
            exact .inr ⟨.inl rfl, makes (by unfold execOp; rw [hop]; simp [r1]) r3 hw hh1 r2⟩
          · rename_i c hop
            split at he
            case h_2 => exact he.elim
            rename_i _ F hc
            split at he
            case h_2 => exact he.elim
            rename_i _ gf cs hf
            split at he
            case h_2 => exact he.elim
            rename_i hng
            exact .inr ⟨.inl rfl, calls hop hc hf hng hw hh1 hs1 he⟩
          · exact he.elim
        · exact he.elim
    · obtain ⟨hm1, g1, pm1, hR1⟩ := hh1
      obtain ⟨hn1, g2, pm2, hR2⟩ := hs1
      obtain ⟨h2, hh2, he⟩ := putP_ok hR1 hm1 (z := undef) (.sc _) he
      obtain ⟨s2, hs2, he⟩ := putP_ok hR2 hn1 (z := undef) (.sc _) he
      exact .inl ⟨undef, some h2, s2, .inr ⟨hw, rfl⟩, he, ⟨hs2, hh2, hg⟩⟩

theorem drawC_ok (ok : CxOk C) (hgl : GlOk β C.gl) {ops : Array Oper} {Q : Exit → Act → World → Prop} {K : St → Prop} (hQ : ∀ a' w', Now β n a' w' K → Q .normal a' w') (hP : ∀ c a w, ¬ Q (.panic c) a w) (hsel : Region.noSelect ops = true) {B : Nat → Bool} :
    ∀ (t : Tr) (m : Nat) (L : Array Bool) (sn : List Nat) (h : Option St) (s : St) (a : Act) (w0 w : World), chkT ops B t m L sn = true → Closed ops L → drawC C ops.toList t h s K → Mid β n h s a w0 w →
      (sn = [] → wpAnyC C.P ops Q B m L (Grew w0) a w) ∧ (∀ k, m = k + 1 → ∀ j ∈ Region.ready .any ops L, sn.contains j = false → wpOp C.P ops Q j (fun a' w' => ∃ S' : World → Prop, (B j = false → S' = Grew w0) ∧ S' w' ∧ wpAnyC C.P ops Q B k (L.setIfInBounds j true) S' a' w') a w)
  | .done, m, L, sn, h, s, a, w0, w, ho, hcl, he, hm => by
    unfold chkT at ho
    rw [Bool.and_eq_true, Bool.and_eq_true] at ho
    obtain rfl := Nat.eq_of_beq_eq_true ho.1
    exact ⟨fun _ => ⟨by simpa using ho.2.1, hQ a w ⟨s, hm.here, he⟩⟩, fun k hk => by cases hk⟩
  | .none, m, L, sn, h, s, a, w0, w, ho, hcl, he, hm => by
    unfold chkT at ho
    rw [Bool.and_eq_true] at ho
    refine ⟨fun hs => (by rw [hs] at ho; simp at ho), fun k hk j hj hn => ?_⟩
    have := List.all_eq_true.1 ho.2 j hj
    rw [hn] at this; cases this
  | .one i fl t, 0, L, sn, h, s, a, w0, w, ho, hcl, he, hm => by unfold chkT at ho; cases ho
  | .alt i fl t u, 0, L, sn, h, s, a, w0, w, ho, hcl, he, hm => by unfold chkT at ho; cases ho
  | .one i fl t, m + 1, L, sn, h, s, a, w0, w, ho, hcl, he, hm => by
    unfold chkT at ho
    rw [Bool.and_eq_true, Bool.and_eq_true] at ho
    obtain ⟨_, ho1, ho2⟩ := ho
    have hrd : i ∈ Region.ready .any ops L := by
      unfold trOne at ho1
      split at ho1
      · rw [(by simpa using ho1 : Region.ready .any ops L = [i])]; simp
      · rw [Bool.and_eq_true, Bool.and_eq_true] at ho1; simpa using ho1.2.1
      · rw [Bool.and_eq_true] at ho1; rw [(by simpa using ho1.1 : Region.ready .any ops L = [i])]; simp
      · rw [Bool.and_eq_true, Bool.and_eq_true] at ho1; simpa using ho1.2.1
      · cases ho1
    have hcl' := hcl.set hrd
    obtain ⟨_, o, hi, _⟩ := mem_ready.1 hrd
    have main : wpAnyC C.P ops Q B (m + 1) L (Grew w0) a w := by
      have h3 : fl = 3 → anyW o.op = true := fun h3 => by
        subst h3
        unfold trOne at ho1
        rw [hi] at ho1
        simp only [Bool.and_eq_true] at ho1
        exact ho1.2.2
      rcases stepC_ok ok hgl (Q := Q) hi h3 he hm with ⟨z, h', s', hq, he', hm'⟩ | ⟨hfl, hw⟩
      · have rest := (drawC_ok ok hgl hQ hP hsel t m (L.setIfInBounds i true) [] h' s' _ w0 w ho2 hcl' he' hm').1 rfl
        have alone : Region.ready .any ops L = [i] → wpAnyC C.P ops Q B (m + 1) L (Grew w0) a w := fun hr => allC hr (hq.wpOp hi ⟨_, fun _ => rfl, hm.grew, rest⟩)
        unfold trOne at ho1
        split at ho1
        · exact alone (by simpa using ho1)
        · rw [Bool.and_eq_true, Bool.and_eq_true] at ho1
          exact takeC hi hsel (fun c a w hq => (hP _ _ _ hq).elim) (Y := Grew w0) (N := ops.size) _ L _ a w hcl (Region.free_spec hi ho1.1) hrd (fun _ h => h) (.inr (waitC_spec ho1.2.2)) (hq.imp (fun ⟨hw, h1, _⟩ => ⟨hw, fun w' hw' => h1 w' hw' rfl⟩) id) hm.grew rest
        · rw [Bool.and_eq_true] at ho1; exact alone (by simpa using ho1.1)
        · rw [Bool.and_eq_true, Bool.and_eq_true] at ho1
          exact takeC hi hsel (fun c a w hq => (hP _ _ _ hq).elim) (Y := fun _ => True) (N := ops.size) _ L _ a w hcl (Region.free_spec hi ho1.1) hrd (fun _ _ => trivial) (.inl fun _ => trivial) (hq.imp (fun ⟨hw, _, h1, _⟩ => ⟨hw, fun w' _ => h1 w' rfl⟩) id) hm.grew rest
        · cases ho1
      · have hr : Region.ready .any ops L = [i] ∧ (fl = 2 → B i = true) := by
          unfold trOne at ho1
          rcases hfl with rfl | rfl
          · exact ⟨by simpa using ho1, fun h => by cases h⟩
          · have ho1 : (Region.ready .any ops L == [i] && B i) = true := ho1
            rw [Bool.and_eq_true] at ho1
            exact ⟨by simpa using ho1.1, fun _ => ho1.2⟩
        refine allC hr.1 (wpOp_mono (fun a' w' ⟨w1, h', s', hw1, he', hm'⟩ => ?_) hw)
        refine ⟨Grew w1, fun hb => ?_, hm'.grew, (drawC_ok ok hgl hQ hP hsel t m (L.setIfInBounds i true) [] h' s' _ w1 w' ho2 hcl' he' hm').1 rfl⟩
        rw [hw1 (fun h2 => by rw [hr.2 h2] at hb; cases hb)]
    exact ⟨fun _ => main, fun k hk j hj _ => by obtain rfl := Nat.succ.inj hk; exact main.2 j hj⟩
  | .alt i fl t u, m + 1, L, sn, h, s, a, w0, w, ho, hcl, he, hm => by
    unfold chkT at ho
    rw [Bool.and_eq_true, Bool.and_eq_true, Bool.and_eq_true] at ho
    obtain ⟨hrd, hfl, ho2, ho3⟩ := ho
    have hrd : i ∈ Region.ready .any ops L := by simpa using hrd
    have hcl' := hcl.set hrd
    obtain ⟨_, o, hi, _⟩ := mem_ready.1 hrd
    obtain ⟨he1, he2⟩ := he
    have hu := (drawC_ok ok hgl hQ hP hsel u (m + 1) L (i :: sn) h s a w0 w ho3 hcl he2 hm).2
    have hfl : fl = 0 ∨ (fl = 2 ∧ B i = true) := by
      rw [Bool.or_eq_true, Bool.and_eq_true] at hfl
      rcases hfl with h | ⟨h1, h2⟩
      · exact .inl (Nat.eq_of_beq_eq_true h)
      · exact .inr ⟨Nat.eq_of_beq_eq_true h1, h2⟩
    have own : wpOp C.P ops Q i (fun a' w' => ∃ S' : World → Prop, (B i = false → S' = Grew w0) ∧ S' w' ∧ wpAnyC C.P ops Q B m (L.setIfInBounds i true) S' a' w') a w := by
      rcases stepC_ok ok hgl (Q := Q) hi (fun h3 => by rcases hfl with h | ⟨h, _⟩ <;> rw [h3] at h <;> cases h) he1 hm with ⟨z, h', s', hq, he', hm'⟩ | ⟨_, hw⟩
      · exact hq.wpOp hi ⟨_, fun _ => rfl, hm.grew, (drawC_ok ok hgl hQ hP hsel t m (L.setIfInBounds i true) [] h' s' _ w0 w ho2 hcl' he' hm').1 rfl⟩
      · refine wpOp_mono (fun a' w' ⟨w1, h', s', hw1, he', hm'⟩ => ?_) hw
        refine ⟨Grew w1, fun hb => ?_, hm'.grew, (drawC_ok ok hgl hQ hP hsel t m (L.setIfInBounds i true) [] h' s' _ w1 w' ho2 hcl' he' hm').1 rfl⟩
        rw [hw1 (fun h2 => by rcases hfl with h | ⟨_, h⟩ <;> first | (rw [h] at h2; cases h2) | (rw [h] at hb; cases hb))]
    have all : ∀ k, m + 1 = k + 1 → ∀ j ∈ Region.ready .any ops L, sn.contains j = false → wpOp C.P ops Q j (fun a' w' => ∃ S' : World → Prop, (B j = false → S' = Grew w0) ∧ S' w' ∧ wpAnyC C.P ops Q B k (L.setIfInBounds j true) S' a' w') a w := fun k hk j hj hn => by
      obtain rfl := Nat.succ.inj hk
      by_cases hji : j = i
      · subst hji; exact own
      · exact hu m rfl j hj (by rw [List.contains_cons, hn, Bool.or_false]; simpa using hji)
    exact ⟨fun hs => ⟨fun h0 => (by rw [h0] at hrd; cases hrd), fun j hj => all m rfl j hj (by rw [hs]; rfl)⟩, all⟩
/-- Drawn regions are evaluated rightly. -/
theorem drawC_right (ok : CxOk C) (dr : Nat → Tr) : DrawOk C (evDrC C dr) (fun id ops => drawChkC ops (dr id)) := by
  intro β n s a w id ops K Q hc hgl hs he hQ hP
  unfold drawChkC at hc
  rw [Bool.and_eq_true] at hc
  obtain ⟨h1, h3⟩ := hc
  have hg : Grew w { w with drawn := w.drawn + 1 } := ⟨rfl, rfl, rfl, Nat.le_refl _, fun _ _ _ => rfl, fun _ _ _ _ => ⟨rfl, rfl⟩⟩
  have go : ∀ {K' : St → Prop}, drawC C ops.toList (dr id) none s K' → (∀ a' w', Now β n a' w' K' → Q .normal a' w') → (Code.region id ops true).wp C.P Q a w := fun he hQ => by
    refine wp_region_any ok.mix (anyC (B := trB (dr id)) _ _ (Grew { w with drawn := w.drawn + 1 }) _ _ ?_)
    refine (drawC_ok ok hgl hQ hP h1 (dr id) _ _ [] none s a _ _ h3 ?_ he ⟨hs.grew hg, rfl, Grew.refl _⟩).1 rfl
    intro j o ho hj
    rw [Array.getD_eq_getD_getElem?, Array.getElem?_replicate] at hj
    split at hj <;> cases hj
  unfold evDrC at he
  split at he
  · exact go he hQ
  · obtain ⟨I, h1, h2⟩ := he.ex
    refine go h1 (fun a' w' ⟨s', hs', he'⟩ => hQ a' w' ?_)
    have he' : canonK (dsts ops.toList (C.keep id)) s' I := he'
    rw [canonK_eq] at he'
    exact ⟨_, hs'.canonL _, h2 _ he'⟩
/-- THE EVALUATOR IS RIGHT. -/
theorem fn_rightC (ok : CxOk C) (dr : Nat → Tr) {f : Nat} {fn : Func} (hf : C.P.funcs[f]? = some fn) (hch : ∀ c, fn.body = some c → drawsOk (fun id ops => drawChkC ops (dr id)) c = true) {args : List V} {obs : List Ob} {Q : List V → List Ob → Prop} (he : fnP C (evDrC C dr) fn args obs Q) : Fn C.P C.gl f args obs Q :=
  fn_sound ok (drawC_right ok dr) hf hch he
end
end Ev
namespace Ev
open Go Go.RowKit
set_option linter.unusedVariables false
theorem get_map {α : Type} {f : α → List V} {xs : List α} {i : Nat} (h : i < xs.length) : (xs.map f)[i]? = some (f xs[i]) := by
  rw [List.getElem?_map, List.getElem?_eq_getElem h]; rfl

/-- A list that is filled from the front. -/
def fillL (l : List (List V)) (z : List V) (i : Nat) : List (List V) := l.take i ++ List.replicate (l.length - i) z
theorem fill_get {l : List (List V)} {z : List V} {i : Nat} (h : i < l.length) : (fillL l z i)[i]? = some z := by
  unfold fillL
  rw [List.getElem?_append_right (by rw [List.length_take]; omega), List.length_take, List.getElem?_replicate, if_pos (by omega)]
theorem fill_set {l : List (List V)} {z e : List V} {i : Nat} (h : l[i]? = some e) : (fillL l z i).set i e = fillL l z (i + 1) := by
  obtain ⟨hi, he⟩ := List.getElem?_eq_some_iff.1 h
  unfold fillL
  rw [List.set_append_right _ _ (by rw [List.length_take]; omega), List.length_take, show i - min i l.length = 0 by omega, show l.length - i = (l.length - (i + 1)) + 1 by omega, List.replicate_succ, List.set_cons_zero, ← he, List.take_succ_eq_append_getElem hi, List.append_assoc]
  rfl
theorem fill_end {l : List (List V)} {z : List V} {i : Nat} (h : l.length ≤ i) : fillL l z i = l := by
  unfold fillL
  rw [List.take_of_length_le h, show l.length - i = 0 by omega]
  exact List.append_nil l
theorem bytes_eq (a b : ByteArray) : (a.toList == b.toList) = decide (a = b) := by
  rw [Bool.eq_iff_iff]
  simp only [beq_iff_eq, decide_eq_true_eq]
  constructor
  · intro h
    rw [ByteArray.toList_eq, ByteArray.toList_eq] at h
    exact ByteArray.ext (Array.ext' h)
  · intro h; rw [h]
theorem wrap64 {n : Int} (h1 : -9223372036854775808 ≤ n) (h2 : n < 9223372036854775808) : IntKind.i64.wrap n = n := IntWalk.i64_in n (by omega)

/-- What is left behind a size. -/
def dec (l : Int) (n : Nat) : Int := if (n : Int) ≤ l then l - n else -1
theorem dec_neg {l : Int} {n : Nat} (h : l < n) : dec l n = -1 := if_neg (by omega)
theorem dec_pos {l : Int} {n : Nat} (h : (n : Int) ≤ l) : dec l n = l - n := if_pos h
theorem dec_lt {l d : Int} {n : Nat} (h : dec l n = d) (hd : d < 0) (h0 : 0 ≤ l) : l < n ∧ d = -1 := by
  unfold dec at h
  split at h <;> omega
theorem dec_ge {l d : Int} {n : Nat} (h : dec l n = d) (hd : ¬ d < 0) : (n : Int) ≤ l ∧ d = l - n := by
  unfold dec at h
  split at h <;> omega
theorem dec_dec {l : Int} {a b c : Nat} (h : (a : Int) ≤ l) (e : c = a + b) : dec (l - a) b = dec l c := by
  subst e
  unfold dec
  by_cases hb : (b : Int) ≤ l - a
  · rw [if_pos hb, if_pos (by omega)]; omega
  · rw [if_neg hb, if_neg (by omega)]
theorem dec_zero {l : Int} (h : 0 ≤ l) : dec l 0 = l := by
  unfold dec; rw [if_pos (by omega)]; omega

noncomputable def eqb {α : Type} (a b : α) : Bool := @decide (a = b) (Classical.propDecidable _)
theorem eqb_yes {α : Type} {a b : α} (h : a = b) : eqb a b = true := @decide_eq_true _ (Classical.propDecidable _) h
theorem eqb_no {α : Type} {a b : α} (h : ¬ a = b) : eqb a b = false := @decide_eq_false _ (Classical.propDecidable _) h
theorem of_eqb {α : Type} {a b : α} (h : eqb a b = true) : a = b := @of_decide_eq_true _ (Classical.propDecidable _) h
theorem of_eqb_no {α : Type} {a b : α} (h : eqb a b = false) : ¬ a = b := @of_decide_eq_false _ (Classical.propDecidable _) h
theorem eqb_cons {α : Type} {a b : α} {l m : List α} (h : a = b) : eqb (a :: l) (b :: m) = eqb l m := by
  by_cases e : l = m
  · rw [eqb_yes e, eqb_yes (by rw [h, e])]
  · rw [eqb_no e, eqb_no (fun h' => e (List.cons.inj h').2)]
-- what holds nothing that was lent
def clB1 : V → Bool
  | .sc _ => true
  | .dead => true
  | _ => false
def clB : V → Bool
  | .agg vs => vs.all clB1
  | v => clB1 v
theorem clB1_ok {v : V} {d : Bool} (h : clB1 v = true) : Cl d v ∧ ∀ us, v ≠ .agg us := by
  cases v <;> first | (cases h; done) | skip
  · exact ⟨.sc _ _, fun us e => by cases e⟩
  · exact ⟨.dead _, fun us e => by cases e⟩
theorem clr_of {rs : List V} (h : rs.all clB = true) : ClR rs := fun v hv => by
  have h := List.all_eq_true.1 h v hv
  cases v with
  | agg vs =>
    have h : vs.all clB1 = true := h
    refine ⟨.agg _ _ fun k u hu => (clB1_ok (List.all_eq_true.1 h u (List.mem_of_getElem? hu))).1, fun us e u hu => ?_⟩
    cases e
    exact (clB1_ok (d := false) (List.all_eq_true.1 h u hu)).2
  | sc x => exact ⟨.sc _ _, fun us e => by cases e⟩
  | dead => exact ⟨.dead _, fun us e => by cases e⟩
  | _ => cases h
theorem clr_own {d : Bool} {n : Nat} {es : List (List V)} (h : ∀ e ∈ es, ∀ v ∈ e, ∃ x, v = .sc x) : ClR [.own d n es] := fun v hv => by
  obtain rfl := List.mem_singleton.1 hv
  refine ⟨.own _ _ _ _ fun i j e v he hv => ?_, fun us e => by cases e⟩
  obtain ⟨x, rfl⟩ := h e (List.mem_of_getElem? he) v (List.mem_of_getElem? hv)
  exact .sc _ _
end Ev
namespace Ev
open Go Go.ChangeShapes Go.WideShapes Go.RowKit Go.Deep
set_option linter.unusedVariables false

/-- Cells that a list of trees tells. -/
def SRs (w : World) (vs : List V) (cs : List Value) : Prop := cs.length = vs.length ∧ ∀ (k : Nat) (v : V) (c : Value), vs[k]? = some v → cs[k]? = some c → SR w (fun _ _ => True) v c
theorem SRs.one {w : World} {v : V} {c : Value} (h : SR w (fun _ _ => True) v c) : SRs w [v] [c] := ⟨rfl, fun k u x hu hx => by
  cases k with
  | zero => obtain rfl := Option.some.inj hu; obtain rfl := Option.some.inj hx; exact h
  | succ k => simp at hu⟩
theorem SRs.app {w : World} {vs us : List V} {xs ys : List Value} (h : SRs w vs xs) (h' : SRs w us ys) : SRs w (vs ++ us) (xs ++ ys) := ⟨by simp [h.1, h'.1], fun k v x hv hx => by
  rw [List.getElem?_append] at hv hx
  rw [h.1] at hx
  split at hv
  · rename_i hlt; rw [if_pos hlt] at hx; exact h.2 k v x hv hx
  · rename_i hlt; rw [if_neg hlt] at hx; exact h'.2 _ v x hv hx⟩
/-- Each reading of the type t, of at most N steps, is told by the tree of a value that is good. -/
def OpV (P : Program) {α : Type} (N : Nat) (t : TypeId) (sz : Nat) (e : α → List V) (good : α → Prop) : Prop :=
  P.cellsOf t = sz ∧ ∀ (H : Type) (enc : TypeId × Value → H) (W : World) (base : Nat) (sp : Nat → Bool) (held : Bool) (fuel : Nat) (cs : List Value) (x : DataW H × List MemPlace),
    fuel ≤ N → DataW.trod enc P W base sp held fuel t cs = some x → ∃ v, good v ∧ (e v).length = sz ∧ SRs W (e v) cs
theorem opv_int {P : Program} {N : Nat} {t : TypeId} {k : IntKind} (ht : P.underlying t = some (.int k)) (hc : P.cellsOf t = 1) : OpV P N t 1 (fun n => [.sc (.int k n)]) (fun n => (Lit.int k n).wf = true) :=
  ⟨hc, fun H enc W base sp held fuel cs x _ h => by
    obtain ⟨n, rfl, _, hw⟩ := DataW.trod_int ht h
    exact ⟨n, hw, rfl, SRs.one (.sc _)⟩⟩
theorem opv_string {P : Program} {N : Nat} {t : TypeId} (ht : P.underlying t = some .string) (hc : P.cellsOf t = 1) : OpV P N t 1 (fun b => [.sc (.string b)]) (fun s => s.size ≤ maxLen) :=
  ⟨hc, fun H enc W base sp held fuel cs x _ h => by
    obtain ⟨s, rfl, _, hw⟩ := DataW.trod_string ht h
    exact ⟨s, hw, rfl, SRs.one (.sc _)⟩⟩
theorem trod_bool_ {P : Program} {t : TypeId} {H : Type} {enc : TypeId × Value → H} {W : World} {base : Nat} {sp : Nat → Bool} {held : Bool} {fuel : Nat} {cs : List Value} {x : DataW H × List MemPlace} (ht : P.underlying t = some .bool) (h : DataW.trod enc P W base sp held fuel t cs = some x) : ∃ b, cs = [.bool b] := by
  cases fuel with
  | zero => simp [DataW.trod] at h
  | succ n =>
    unfold DataW.trod at h
    rw [ht] at h
    split at h <;> simp_all
theorem opv_bool {P : Program} {N : Nat} {t : TypeId} (ht : P.underlying t = some .bool) (hc : P.cellsOf t = 1) : OpV P N t 1 (fun b => [.sc (.bool b)]) (fun _ => True) :=
  ⟨hc, fun H enc W base sp held fuel cs x _ h => by
    obtain ⟨b, rfl⟩ := trod_bool_ ht h
    exact ⟨b, trivial, rfl, SRs.one (.sc _)⟩⟩
theorem opv_slice {P : Program} {N : Nat} {α : Type} {t e : TypeId} {sz : Nat} {f : α → List V} {good : α → Prop} (ht : P.underlying t = some (.slice e)) (hc : P.cellsOf t = 1) (hpos : 0 < sz) (he : ∀ M, M < N → OpV P M e sz f good) :
    OpV P N t 1 (fun xs : List α => [.sl sz (xs.map f)]) (fun xs => xs.length ≤ maxLen ∧ ∀ x ∈ xs, good x) :=
  ⟨hc, fun H enc W base sp held fuel cs x hN h => by
    rcases DataW.trod_slice ht h with ⟨rfl, _⟩ | ⟨a, len, cap, elems, rest, n, hf, rfl, _, hb, hl, hm, hlen, hel, _, _⟩
    · exact ⟨[], ⟨Nat.zero_le _, fun x hx => by cases hx⟩, rfl, SRs.one (.nil sz none 0)⟩
    · by_cases hz : len = 0
      · subst hz
        exact ⟨[], ⟨Nat.zero_le _, fun x hx => by cases hx⟩, rfl, SRs.one (.nil sz (some a) cap)⟩
      · have hs : P.cellsOf e = sz := (he n (by omega)).1
        have each : ∀ i, i < len → ∃ v, good v ∧ (f v).length = sz ∧ ∃ cs', W.cells? base (a.add (i * sz)) sz = some cs' ∧ SRs W (f v) cs' := fun i hi => by
          have h1 := hel i hi
          rw [List.getElem?_eq_getElem (by omega), hs] at h1
          obtain ⟨cs', h2, h3⟩ := Option.bind_eq_some_iff.1 h1
          obtain ⟨v, g, gl, k⟩ := (he n (by omega)).2 H enc W base sp held n cs' _ (Nat.le_refl _) h3
          exact ⟨v, g, gl, cs', h2, k⟩
        obtain ⟨v0, _, _, cs0, hcs0, _⟩ := each 0 (by omega)
        have hspot : a.spot = none := by
          obtain ⟨_, h3, h4⟩ := World.cells?_some hcs0
          have := h4 0 hpos
          rw [List.getElem?_eq_getElem (by omega), Nat.zero_mul, Addr.add, Addr.add] at this
          simp only [if_true] at this
          unfold World.cell? at this
          split at this
          · split at this
            · cases this
            · rename_i hsp
              cases e : a.spot with
              | none => rfl
              | some q => rw [e] at hsp; simp at hsp
          · cases this
        obtain ⟨b, o, sp'⟩ := a
        dsimp only at hspot
        subst hspot
        let Vv : Nat → α := fun i => if h : i < len then Classical.choose (each i h) else v0
        have hV : ∀ i, i < len → good (Vv i) ∧ (f (Vv i)).length = sz ∧ ∃ cs', W.cells? base (Addr.add ⟨b, o, none⟩ (i * sz)) sz = some cs' ∧ SRs W (f (Vv i)) cs' := fun i hi => by
          have := Classical.choose_spec (each i hi)
          simp only [Vv, hi, dif_pos]
          exact this
        have hlen' : ((List.range len).map Vv).length = len := by rw [List.length_map, List.length_range]
        have hget : ∀ (i : Nat) (q : List V), (((List.range len).map Vv).map f)[i]? = some q → i < len ∧ q = f (Vv i) := fun i q hq => by
          have hi : i < len := by have := (List.getElem?_eq_some_iff.1 hq).1; simpa using this
          rw [List.getElem?_map, List.getElem?_map, List.getElem?_range hi] at hq
          exact ⟨hi, (Option.some.inj hq).symm⟩
        have hcellAt : ∀ i, i < len → ∀ j, j < sz → ∃ c, W.cell? ⟨b, o + i * sz + j, none⟩ = some c ∧ ∀ v, (f (Vv i))[j]? = some v → SR W (fun _ _ => True) v c := fun i hi j hj => by
          obtain ⟨_, gl, cs', h1, h2⟩ := hV i hi
          obtain ⟨_, h3, h4⟩ := World.cells?_some h1
          have h5 := h4 j hj
          rw [Addr.add_off, Addr.add_off, List.getElem?_eq_getElem (by omega)] at h5
          exact ⟨_, h5, fun v hv => h2.2 j v _ hv (List.getElem?_eq_getElem (by omega))⟩
        refine ⟨(List.range len).map Vv, ⟨by rw [hlen']; omega, fun x hx => ?_⟩, rfl, SRs.one ?_⟩
        · obtain ⟨i, hi, rfl⟩ := List.mem_map.1 hx
          exact (hV i (List.mem_range.1 hi)).1
        · have hll : (((List.range len).map Vv).map f).length = len := by rw [List.length_map, hlen']
          have := SR.sl (w := W) (ok := fun _ _ => True) sz (((List.range len).map Vv).map f) b o cap (fun i j => (W.cell? ⟨b, o + i * sz + j, none⟩).getD undef) (fun i q hq => by
            obtain ⟨hi, rfl⟩ := hget i q hq
            exact (hV i hi).2.1) (fun i j q v hq hv => by
            obtain ⟨hi, rfl⟩ := hget i q hq
            have hj : j < sz := by have := (List.getElem?_eq_some_iff.1 hv).1; rw [(hV i hi).2.1] at this; exact this
            obtain ⟨c, c1, _⟩ := hcellAt i hi j hj
            exact ⟨trivial, by rw [c1]; rfl⟩) (fun i j q v hq hv => by
            obtain ⟨hi, rfl⟩ := hget i q hq
            have hj : j < sz := by have := (List.getElem?_eq_some_iff.1 hv).1; rw [(hV i hi).2.1] at this; exact this
            obtain ⟨c, c1, c2⟩ := hcellAt i hi j hj
            rw [c1]
            exact c2 v hv) (by rw [hll]; exact hl)
          rw [hll] at this
          exact this⟩
/-- The fields from the cell off on, all of them that are left. -/
def OpVF (P : Program) {α : Type} (N : Nat) (fs : List Field) (off sz : Nat) (e : α → List V) (good : α → Prop) : Prop :=
  ∀ (H : Type) (enc : TypeId × Value → H) (W : World) (base : Nat) (sp : Nat → Bool) (held : Bool) (n : Nat) (cs : List Value), n ≤ N → cs.length = off + sz →
    (∀ f ∈ fs, ∃ y, DataW.trod enc P W base sp held n f.type ((cs.drop f.offset).take (P.cellsOf f.type)) = some y) → ∃ v, good v ∧ (e v).length = sz ∧ SRs W (e v) (cs.drop off)
theorem opvf_last {P : Program} {N : Nat} {α : Type} {f : Field} {off sz : Nat} {e : α → List V} {good : α → Prop} (hf : f.offset = off) (h : OpV P N f.type sz e good) : OpVF P N [f] off sz e good := by
  intro H enc W base sp held n cs hN hl hall
  obtain ⟨y, hy⟩ := hall f (List.mem_singleton.2 rfl)
  rw [hf, h.1, List.take_of_length_le (by rw [List.length_drop]; omega)] at hy
  exact h.2 H enc W base sp held n _ _ hN hy
theorem opvf_cons {P : Program} {N : Nat} {α β : Type} {f : Field} {fs : List Field} {off o2 s1 s2 : Nat} {e : α → List V} {e2 : β → List V} {good : α → Prop} {good2 : β → Prop} (hf : f.offset = off) (h : OpV P N f.type s1 e good) (ho : o2 = off + s1) (h2 : OpVF P N fs o2 s2 e2 good2) :
    OpVF P N (f :: fs) off (s1 + s2) (fun p : α × β => e p.1 ++ e2 p.2) (fun p => good p.1 ∧ good2 p.2) := by
  subst ho
  intro H enc W base sp held n cs hN hl hall
  obtain ⟨y, hy⟩ := hall f (List.mem_cons_self)
  rw [hf, h.1] at hy
  obtain ⟨v, g, gl, k⟩ := h.2 H enc W base sp held n _ _ hN hy
  obtain ⟨v2, g2, gl2, k2⟩ := h2 H enc W base sp held n cs hN (by omega) (fun f hf => hall f (List.mem_cons_of_mem _ hf))
  refine ⟨(v, v2), ⟨g, g2⟩, by rw [List.length_append, gl, gl2], ?_⟩
  have := k.app k2
  rw [← List.drop_drop, List.take_append_drop] at this
  exact this
theorem opv_struct {P : Program} {N : Nat} {α : Type} {t : TypeId} {fs : Array Field} {sz : Nat} {e : α → List V} {good : α → Prop} (ht : P.underlying t = some (.struct fs)) (hc : P.cellsOf t = sz) (h : ∀ M, M < N → OpVF P M fs.toList 0 sz e good) : OpV P N t sz e good :=
  ⟨hc, fun H enc W base sp held fuel cs x hN hx => by
    obtain ⟨xs, n, hf0, _, hl, hlen, hf⟩ := DataW.trod_struct ht hx
    have := h n (by omega) H enc W base sp held n cs (Nat.le_refl _) (by rw [hl, hc, Nat.zero_add]) (fun f hfm => by
      obtain ⟨i, hi, hfi⟩ := List.getElem_of_mem hfm
      have hi' : i < fs.size := by simpa using hi
      have e : fs[i]? = some f := by
        rw [Array.getElem?_eq_getElem hi']
        simpa using hfi
      have := hf i f e
      rw [List.getElem?_eq_getElem (by omega)] at this
      exact ⟨_, this⟩)
    simpa using this⟩
/-- One value read as another. -/
theorem opv_as {P : Program} {N : Nat} {α β : Type} {t : TypeId} {sz : Nat} {e : α → List V} {e' : β → List V} {good : α → Prop} {good' : β → Prop} (g : α → β) (hg : ∀ v, good v → good' (g v)) (hk : ∀ v, e' (g v) = e v) (h : OpV P N t sz e good) : OpV P N t sz e' good' :=
  ⟨h.1, fun H enc W base sp held fuel cs x hN hx => by
    obtain ⟨v, gv, gl, k⟩ := h.2 H enc W base sp held fuel cs x hN hx
    exact ⟨g v, hg v gv, by rw [hk]; exact gl, by rw [hk]; exact k⟩⟩
end Ev
