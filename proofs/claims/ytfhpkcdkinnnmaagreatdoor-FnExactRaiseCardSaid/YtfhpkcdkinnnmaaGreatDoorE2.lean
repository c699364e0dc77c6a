/- A root becomes what is only read: what is one's own is given up for good. -/
import Derived.Test.YtfhpkcdkinnnmaaGreatDoorE1
import Derived.Laws.Append
import Derived.Laws.AppendOwn
import Derived.Lib.AppendStr
import Derived.Below
import Derived.Laws.Sem
namespace Ev
open Go Go.RowKit
set_option linter.unusedVariables false
set_option linter.unusedSimpArgs false

/-- A value, where the root r is only read from now on. -/
def frz1 (s : St) (r : Nat) : V → V
  | .hdr q p => match Nat.beq q r with
    | true => match lend1 s (.hdr q p) with
      | some v => v
      | none => .dead
    | false => .hdr q p
  | .part q p o l => match Nat.beq q r with
    | true => match lend1 s (.part q p o l) with
      | some v => v
      | none => .dead
    | false => .part q p o l
  | .ptr q p i j => match Nat.beq q r with
    | true => match isBox true p with
      | true => match lend1 s (.ptr q p i j) with
        | some v => v
        | none => .dead
      | false => .dead
    | false => .ptr q p i j
  | .sc x => .sc x
  | .sh n es => .sh n es
  | .shp cs => .shp cs
  | .fn f [] => .fn f []
  | _ => .dead
def frz2 (s : St) (r : Nat) : V → V
  | .agg vs => .agg (vs.map (frz1 s r))
  | .fn f (c :: cs) => .fn f ((c :: cs).map (frz1 s r))
  | v => frz1 s r v
def frz3 (s : St) (r : Nat) : V → V
  | .tup vs => .tup (vs.map (frz2 s r))
  | v => frz2 s r v
def frzPm (pm : Nat → Nat → Option (Nat × Path)) (r : Nat) : Nat → Nat → Option (Nat × Path) := fun b o =>
  match pm b o with
  | some (q, p) => if q = r then none else some (q, p)
  | none => none
def St.frz (s : St) (r : Nat) : St := { s with tm := s.tm.map fun x => (x.1, frz3 s r x.2), ob := (r, none) :: s.ob }

section
variable {β : Base} {s : St} {a : Act} {w : World} {g : Gh} {pm : Nat → Nat → Option (Nat × Path)} {C : Ctx}

theorem frzPm_none {r b o : Nat} : frzPm pm r b o = none ↔ (pm b o = none ∨ ∃ p, pm b o = some (r, p)) := by
  unfold frzPm
  cases e : pm b o with
  | none => simp
  | some x =>
    obtain ⟨q, p⟩ := x
    dsimp only
    by_cases h : q = r
    · subst h; simp
    · simp [h]
theorem St.at_drop (s : St) (r : Nat) (tm : List (Nat × V)) (nx fz ng : Nat) (q : Nat) (p : Path) : (⟨tm, (r, none) :: s.ob, nx, fz, ng⟩ : St).at q p = if r = q then none else s.at q p := by
  unfold St.at St.obj
  dsimp only
  rw [look_cons]
  by_cases e : r = q
  · rw [if_pos e, if_pos e]
  · rw [if_neg e, if_neg e]

theorem R.freeze (h : R β s a w g pm) {r : Nat} (hr : s.ng ≤ r) : R β (s.frz r) a w g (frzPm pm r) ∧ ∀ v x, VR w (okc β pm) g s.len v x → VR w (okc β (frzPm pm r)) g (s.frz r).len (frz3 s r v) x := by
  have hok : ∀ b o, okR β pm r b o → okc β (frzPm pm r) b o := fun b o hb => by
    rcases hb with hb | ⟨p, hb⟩
    · exact ⟨frzPm_none.2 (.inl hb.1), hb.2⟩
    · refine ⟨frzPm_none.2 (.inr ⟨p, hb⟩), ?_⟩
      rcases h.own b o (by rw [hb]; simp) with h1 | h1
      · exact .inr (.inl h1)
      · exact .inr (.inr h1)
  have hlent : Lent β pm (okc β (frzPm pm r)) [r] := ⟨fun b o hb => hok b o (.inl hb), fun q hq b o p hb => by
    obtain rfl : q = r := by simpa using hq
    exact hok b o (.inr ⟨p, hb⟩)⟩
  have hat : ∀ q p, (s.frz r).at q p = if r = q then none else s.at q p := fun q p => St.at_drop s r _ _ _ _ q p
  have hlen : ∀ q p m, q ≠ r → s.len q p = some m → (s.frz r).len q p = some m := fun q p m hq hm => by
    unfold St.len at hm ⊢
    rw [hat, if_neg (fun e => hq e.symm)]; exact hm
  have up : ∀ b o c, okc β pm b o → w.cell? ⟨b, o, none⟩ = some c → okc β (frzPm pm r) b o ∧ w.cell? ⟨b, o, none⟩ = some c := fun b o c h1 h2 => ⟨hok b o (.inl h1), h2⟩
  have lent : ∀ v x, VR w (okc β pm) g s.len v x → roots1 v = [r] → VR w (okc β (frzPm pm r)) g (s.frz r).len (match lend1 s v with | some v' => v' | none => .dead) x := fun v x hv hrv => by
    split
    · rename_i v' he
      exact (lend1_ok h (hlent.sub (fun q hq => by rw [hrv] at hq; exact hq)) hv he).bare (fun b o c h1 h2 => ⟨h1, h2⟩)
    · exact .dead _
  have ne_of : ∀ {q : Nat}, Nat.beq q r = false → q ≠ r := fun {q} e1 e => by rw [e, Nat.beq_refl] at e1; cases e1
  have h1 : ∀ v x, VR w (okc β pm) g s.len v x → VR w (okc β (frzPm pm r)) g (s.frz r).len (frz1 s r v) x := fun v x hv => by
    cases hv with
    | sc x => exact .sc _
    | sh n es c hh => exact .sh n es _ (hh.mono up)
    | shp cs b o vals h1 h2 => exact .shp cs b o vals (fun j v hv => up _ _ _ (h1 j v hv).1 (h1 j v hv).2) (fun j v hv => (h2 j v hv).mono up)
    | fn f caps xs hl hx =>
      cases caps with
      | nil => exact .fn f [] xs hl (fun k v x hv => by simp at hv)
      | cons => exact .dead _
    | hdr q p n c hn hc =>
      simp only [frz1]
      cases e : Nat.beq q r with
      | true =>
        obtain rfl := Nat.eq_of_beq_eq_true e
        exact lent (.hdr q p) _ (.hdr q p n _ hn hc) rfl
      | false => exact .hdr q p n _ (hlen q p n (ne_of e) hn) hc
    | part q p o l n c hn hl hc =>
      simp only [frz1]
      cases e : Nat.beq q r with
      | true =>
        obtain rfl := Nat.eq_of_beq_eq_true e
        exact lent (.part q p o l) _ (.part q p o l n _ hn hl hc) rfl
      | false => exact .part q p o l n _ (hlen q p n (ne_of e) hn) hl hc
    | ptr q p i j n hn hl =>
      simp only [frz1]
      cases e : Nat.beq q r with
      | true =>
        obtain rfl := Nat.eq_of_beq_eq_true e
        dsimp only
        split
        · exact lent (.ptr q p i j) _ (.ptr q p i j n hn hl) rfl
        · exact .dead _
      | false => exact .ptr q p i j n (hlen q p n (ne_of e) hn) hl
    | _ => exact .dead _
  have hmap : ∀ (f : V → V), (∀ v x, VR w (okc β pm) g s.len v x → VR w (okc β (frzPm pm r)) g (s.frz r).len (f v) x) → ∀ (vs : List V) (xs : List Value), (∀ (k : Nat) (v : V) (x : Value), vs[k]? = some v → xs[k]? = some x → VR w (okc β pm) g s.len v x) → ∀ (k : Nat) (v : V) (x : Value), (vs.map f)[k]? = some v → xs[k]? = some x → VR w (okc β (frzPm pm r)) g (s.frz r).len v x := fun f hf vs xs hx k v x hv hxx => by
    rw [List.getElem?_map] at hv
    cases e : vs[k]? with
    | none => rw [e] at hv; cases hv
    | some u =>
      rw [e] at hv
      obtain rfl := Option.some.inj hv
      exact hf u x (hx k u x e hxx)
  have h2 : ∀ v x, VR w (okc β pm) g s.len v x → VR w (okc β (frzPm pm r)) g (s.frz r).len (frz2 s r v) x := fun v x hv => by
    cases hv with
    | agg vs xs hl hx => exact .agg _ xs (by rw [List.length_map]; exact hl) (hmap _ h1 vs xs hx)
    | fn f caps xs hl hx =>
      cases caps with
      | nil => exact h1 _ _ (.fn f [] xs hl hx)
      | cons c cs => exact .fn f _ xs (by rw [List.length_map]; exact hl) (hmap _ h1 _ xs hx)
    | sc x => exact h1 _ _ (.sc _)
    | sh n es c hh => exact h1 _ _ (.sh n es _ hh)
    | shp cs b o vals k1 k2 => exact h1 _ _ (.shp cs b o vals k1 k2)
    | hdr r p n c hn hc => exact h1 _ _ (.hdr r p n _ hn hc)
    | part r p o len n c hn hl hc => exact h1 _ _ (.part r p o len n _ hn hl hc)
    | ptr r p i j n hn hl => exact h1 _ _ (.ptr r p i j n hn hl)
    | bxr vs b o xs k1 k2 => exact h1 _ _ (.bxr vs b o xs k1 k2)
    | tup vs xs hl hx => exact .dead _
    | dead c => exact .dead _
  have h3 : ∀ v x, VR w (okc β pm) g s.len v x → VR w (okc β (frzPm pm r)) g (s.frz r).len (frz3 s r v) x := fun v x hv => by
    cases hv with
    | tup vs xs hl hx => exact .tup _ xs (by rw [List.length_map]; exact hl) (hmap _ h2 vs xs hx)
    | agg vs xs hl hx => exact h2 _ _ (.agg vs xs hl hx)
    | fn f caps xs hl hx => exact h2 _ _ (.fn f caps xs hl hx)
    | sc x => exact h2 _ _ (.sc _)
    | sh n es c hh => exact h2 _ _ (.sh n es _ hh)
    | shp cs b o vals k1 k2 => exact h2 _ _ (.shp cs b o vals k1 k2)
    | hdr r p n c hn hc => exact h2 _ _ (.hdr r p n _ hn hc)
    | part r p o len n c hn hl hc => exact h2 _ _ (.part r p o len n _ hn hl hc)
    | ptr r p i j n hn hl => exact h2 _ _ (.ptr r p i j n hn hl)
    | bxr vs b o xs k1 k2 => exact h2 _ _ (.bxr vs b o xs k1 k2)
    | dead c => exact .dead _
  refine ⟨?_, h3⟩
  exact {
    defers := h.defers
    fsz := h.fsz
    tm := fun t => by
      have : (s.frz r).get t = frz3 s r (s.get t) := by unfold St.get St.frz; exact look_map V.dead V.dead (frz3 s r) rfl s.tm t
      rw [this]; exact h3 _ _ (h.tm t)
    blk := fun q p es d n hh => by
      rw [hat] at hh
      by_cases e : r = q
      · rw [if_pos e] at hh; cases hh
      · rw [if_neg e] at hh
        refine (h.blk q p es d n hh).rename (fun b o c h1 h2 => (up b o c h1 h2).1) ⟨rfl, rfl, rfl, rfl, rfl⟩ (fun b o hb => ?_) (fun _ _ _ _ _ _ _ => ⟨rfl, rfl, rfl, rfl, rfl⟩)
        unfold frzPm; rw [hb]; dsimp only; rw [if_neg (fun e' => e e'.symm)]
    fresh := fun q hq => by
      show look none ((r, none) :: s.ob) q = none
      rw [look_cons]
      split
      · rfl
      · exact h.fresh q hq
    own := fun b o hb => h.own b o (fun e => hb (frzPm_none.2 (.inl e)))
    keep := h.keep
    low := fun b o hb => h.low b o (fun e => hb (frzPm_none.2 (.inl e)))
    ngnx := h.ngnx
    top := fun k hk => by
      obtain ⟨t1, t2⟩ := h.top k hk
      have hk : k < s.ng := hk
      refine ⟨t1, ?_⟩
      have : (s.frz r).shape k = s.shape k := by
        unfold St.shape St.obj St.frz
        dsimp only
        rw [look_cons, if_neg (by omega)]
      rw [this]; exact t2 }
end
end Ev
namespace Ev
open Go Go.RowKit
set_option linter.unusedVariables false
set_option linter.unusedSimpArgs false

def detGh (g : Gh) (r : Nat) (P : Path) (q : Nat) : Gh :=
  ⟨fun r' p' => if r' = q then g.blk r (P ++ p') else g.blk r' p', fun r' p' => if r' = q then g.off r (P ++ p') else g.off r' p', fun r' p' => if r' = q then g.sz r (P ++ p') else g.sz r' p', fun r' p' => if r' = q then g.cap r (P ++ p') else g.cap r' p', fun r' p' => if r' = q then g.nl r (P ++ p') else g.nl r' p'⟩
def detPm (pm : Nat → Nat → Option (Nat × Path)) (r : Nat) (P : Path) (q : Nat) : Nat → Nat → Option (Nat × Path) := fun b o =>
  match pm b o with
  | some (r', p') => if r' = r then match strip P p' with
    | some q2 => some (q, q2)
    | none => some (r', p')
    else some (r', p')
  | none => none
theorem detGh_new (g : Gh) (r : Nat) (P : Path) (q : Nat) (p : Path) : SameGh g (detGh g r P q) r q (P ++ p) p := by
  unfold SameGh detGh; simp
theorem detGh_else (g : Gh) (r : Nat) (P : Path) {q r' : Nat} (p : Path) (h : r' ≠ q) : SameGh g (detGh g r P q) r' r' p p := by
  unfold SameGh detGh; simp [h]
theorem detPm_none {pm : Nat → Nat → Option (Nat × Path)} {r : Nat} {P : Path} {q b o : Nat} : detPm pm r P q b o = none ↔ pm b o = none := by
  unfold detPm
  cases pm b o with
  | none => exact Iff.rfl
  | some x =>
    obtain ⟨r', p'⟩ := x
    dsimp only
    split
    · split <;> simp
    · simp

section
variable {β : Base} {s : St} {a : Act} {w : World} {g : Gh} {pm : Nat → Nat → Option (Nat × Path)} {C : Ctx}

/-- The content of a cell that has its own. -/
def ownIn (d : Bool) : V → Option Ob
  | .own d' n' es' => some ⟨es', d', n', false⟩
  | .sl n' es' => match d with
    | true => some ⟨es', true, n', false⟩
    | false => none
  | _ => none

theorem R.detach (h : R β s a w g pm) {r : Nat} {p : Path} {es : List (List V)} {d : Bool} {n : Nat} (hat : s.at r p = some (es, d, n)) {i j : Nat} {e : List V} {u : V} (he : es[i]? = some e) (hu : e[j]? = some u) {o : Ob} (ho : ownIn d u = some o) :
    R β (((s.clear u r p j).putOb r p (setAt i j .dead)).newOb o) a w (detGh g r (p ++ [(i, j)]) s.nx) (detPm pm r (p ++ [(i, j)]) s.nx) ∧
    (∀ v x, VR w (okc β pm) g s.len v x → VR w (okc β (detPm pm r (p ++ [(i, j)]) s.nx)) (detGh g r (p ++ [(i, j)]) s.nx) (((s.clear u r p j).putOb r p (setAt i j .dead)).newOb o).len (clearV u r p j v) x) ∧
    (∀ c, RefHdr g r (p ++ [(i, j)]) 0 o.es.length c → RefHdr (detGh g r (p ++ [(i, j)]) s.nx) s.nx [] 0 o.es.length c) := by
  generalize hP : p ++ [(i, j)] = P
  have hsubP : ∀ q2, s.at r (P ++ q2) = sub o.deep o.sz o.es q2 := fun q2 => by
    unfold St.at at hat ⊢
    cases hob : s.obj r with
    | none => rw [hob] at hat; cases hat
    | some ob =>
      rw [hob] at hat
      dsimp only at hat ⊢
      rw [← hP, List.append_assoc, sub_append, hat]
      simp only [Option.bind_some, List.cons_append, List.nil_append, sub, he, hu]
      cases u with
      | own d' n' es' =>
        simp only [ownIn, Option.some.injEq] at ho
        subst ho; rfl
      | sl n' es' =>
        cases d with
        | true => simp only [ownIn, Option.some.injEq] at ho; subst ho; rfl
        | false => simp [ownIn] at ho
      | _ => simp [ownIn] at ho
  have hbx : o.bx = false := by
    cases u with
    | own d' n' es' => simp only [ownIn, Option.some.injEq] at ho; subst ho; rfl
    | sl n' es' =>
      cases d with
      | true => simp only [ownIn, Option.some.injEq] at ho; subst ho; rfl
      | false => simp [ownIn] at ho
    | _ => simp [ownIn] at ho
  obtain ⟨c0, hc0, _⟩ := (h.blk r p es d n hat).cell i j e u he hu
  obtain ⟨h1, hV1⟩ := h.set1 hat he hu (v := V.dead) (c := c0) trivial (.dead _)
  rw [setCell_self hc0] at h1 hV1
  have hnx1 : ((s.clear u r p j).putOb r p (setAt i j V.dead)).nx = s.nx := by rw [(St.putOb_tm _ _ _ _).2.1, (s.clear_ob u r p j).2.1]
  have hat1 := St.at_set hat (i := i) (j := j) u V.dead
  obtain ⟨ed, hed, hud⟩ := setAt_cell (v := V.dead) he hu
  generalize hs1 : (s.clear u r p j).putOb r p (setAt i j V.dead) = s1 at *
  have hrnx : r ≠ s.nx := fun e => by
    unfold St.at at hat; rw [e, h.fresh s.nx (Nat.le_refl _)] at hat; cases hat
  have hnone : ∀ q2, s1.at r (P ++ q2) = none := fun q2 => by
    unfold St.at at hat1 ⊢
    cases hob : s1.obj r with
    | none => rfl
    | some ob =>
      rw [hob] at hat1
      dsimp only at hat1 ⊢
      rw [← hP, List.append_assoc, sub_append, hat1]
      simp only [Option.bind_some, List.cons_append, List.nil_append, sub, hed, hud]
  have hstay : ∀ r' p', s1.at r' p' ≠ none → r' ≠ s.nx ∧ (r' = r → strip P p' = none) := fun r' p' hne => by
    refine ⟨fun e => hne (by rw [e]; exact St.at_fresh h1 (by rw [hnx1]; exact Nat.le_refl _) p'), fun e => ?_⟩
    cases hst : strip P p' with
    | none => rfl
    | some q2 =>
      have := strip_some hst
      rw [e, this] at hne
      exact absurd (hnone q2) hne
  have hatn : ∀ r' p', (s1.newOb o).at r' p' = if s.nx = r' then sub o.deep o.sz o.es p' else s1.at r' p' := fun r' p' => by rw [St.at_newOb, hnx1]
  have hok : okc β (detPm pm r P s.nx) = okc β pm := by
    funext b o'
    unfold okc
    rw [propext detPm_none]
  have hlenE : ∀ r' p' m, s1.len r' p' = some m → (s1.newOb o).len r' p' = some m ∧ SameGh g (detGh g r P s.nx) r' r' p' p' := fun r' p' m hm => by
    have hne : s1.at r' p' ≠ none := fun e => by unfold St.len at hm; rw [e] at hm; cases hm
    obtain ⟨h2, _⟩ := hstay r' p' hne
    refine ⟨?_, detGh_else g r P p' h2⟩
    unfold St.len at hm ⊢
    rw [hatn, if_neg (fun e => h2 e.symm)]; exact hm
  have hV : ∀ v x, VR w (okc β pm) g s1.len v x → VR w (okc β (detPm pm r P s.nx)) (detGh g r P s.nx) (s1.newOb o).len v x := fun v x hv => by
    rw [hok]; exact hv.mono (fun _ _ _ h1 h2 => ⟨h1, h2⟩) hlenE
  refine ⟨?_, fun v x hv => hV _ _ (hV1 _ _ hv), fun c hc => hc.same (by have := detGh_new g r P s.nx []; rwa [List.append_nil] at this)⟩
  exact {
    defers := h1.defers
    fsz := h1.fsz
    tm := fun t => hV _ _ (h1.tm t)
    blk := fun r' p' es' d' n' hh => by
      rw [hatn] at hh
      rw [hok]
      by_cases e : s.nx = r'
      · rw [if_pos e] at hh
        subst e
        refine (h.blk r (P ++ p') es' d' n' (by rw [hsubP]; exact hh)).rename (fun _ _ _ h1 _ => h1) (detGh_new g r P s.nx p') (fun b o' hb => ?_) (fun i' j' e' v' _ _ _ => by
          have := detGh_new g r P s.nx (p' ++ [(i', j')])
          rwa [← List.append_assoc] at this)
        unfold detPm
        rw [hb]; dsimp only
        rw [if_pos rfl, strip_append]
      · rw [if_neg e] at hh
        obtain ⟨h2, h3⟩ := hstay r' p' (by rw [hh]; simp)
        refine (h1.blk r' p' es' d' n' hh).rename (fun _ _ _ h1 _ => h1) (detGh_else g r P p' h2) (fun b o' hb => ?_) (fun i' j' e' v' _ _ _ => detGh_else g r P _ h2)
        unfold detPm
        rw [hb]; dsimp only
        split
        · rename_i e2; rw [h3 e2]
        · rfl
    fresh := fun r' hr' => by
      show look none ((s1.nx, some o) :: s1.ob) r' = none
      have hr' : s1.nx + 1 ≤ r' := hr'
      rw [look_cons, if_neg (by omega)]; exact h1.fresh r' (by omega)
    own := fun b o' hb => h1.own b o' (fun e => hb (detPm_none.2 e))
    keep := h1.keep
    low := fun b o' hb => h1.low b o' (fun e => hb (detPm_none.2 e))
    ngnx := Nat.le_succ_of_le h1.ngnx
    top := fun k hk => by
      have hk : k < s1.ng := hk
      have hk' : k < s1.nx := Nat.lt_of_lt_of_le hk h1.ngnx
      obtain ⟨t1, t2⟩ := h1.top k hk
      refine ⟨?_, by rw [St.shape_newOb _ _ hk']; exact t2⟩
      obtain ⟨e1, e2, e3, e4, e5⟩ := detGh_else g r P (q := s.nx) (r' := k) [] (by omega)
      exact ⟨e1.trans t1.1, e2.trans t1.2.1, e3.trans t1.2.2.1, e4.trans t1.2.2.2.1, e5.trans t1.2.2.2.2⟩ }
end
end Ev
namespace Ev
open Go Go.RowKit
set_option linter.unusedVariables false
set_option linter.unusedSimpArgs false

/-- What is appended, as the run sees it. -/
structure AppSrc (P : Program) (w : World) (u : TypeId) (size : Nat) (x : Value) (m : Nat) (news : List Value) : Prop where
  ty : P.underlying u = some .string ∨ ∃ e', P.underlying u = some (.slice e')
  len : ∀ w', (Builtin.lenOf x).run P w' = .ok m w'
  cells : ∀ w', (∀ a, w'.cell? a = w.cell? a) → (Builtin.firstCells size m x).run P w' = .ok news.toArray w'
  num : news.length = m * size
  one : ∀ v ∈ news, v.oneCell' = true

theorem AppSrc.string {P : Program} {w : World} {u : TypeId} (hu : P.underlying u = some .string) (s : ByteArray) : AppSrc P w u 1 (.string s) s.size (Lib.strCells s) :=
  ⟨.inl hu, fun w' => by simp [Builtin.lenOf], fun w' _ => Lib.run_firstCells_string w' 1 s, by rw [Lib.strCells_length]; omega, Lib.strCells_oneCell s⟩
theorem AppSrc.slice {P : Program} {w : World} {u e : TypeId} (hu : P.underlying u = some (.slice e)) {size : Nat} (b o m cap : Nat) (news : List Value) (hl : news.length = m * size) (hn : ∀ j v, news[j]? = some v → w.cell? ⟨b, o + j, none⟩ = some v) (h1 : ∀ v ∈ news, v.oneCell' = true) : AppSrc P w u size (.slice (some ⟨b, o, none⟩) m cap) m news :=
  ⟨.inr ⟨_, hu⟩, fun w' => by simp [Builtin.lenOf], fun w' hw => run_firstCells_some w' size m _ m cap news hl (fun j v hj => by rw [hw, Addr.add_off]; exact hn j v hj), hl, h1⟩
theorem AppSrc.empty {P : Program} {w : World} {u e : TypeId} (hu : P.underlying u = some (.slice e)) {size : Nat} (A : Option Addr) (cap : Nat) : AppSrc P w u size (.slice A 0 cap) 0 [] :=
  ⟨.inr ⟨_, hu⟩, fun w' => by simp [Builtin.lenOf], fun w' _ => by
    cases A with
    | none => simp [Builtin.firstCells]
    | some a => exact run_firstCells_some w' size 0 a 0 cap [] (by simp) (fun j v hj => by simp at hj), by simp, fun v hv => by simp at hv⟩

theorem run_app_room {P : Program} {w : World} {t u ty e : TypeId} {i : TypeInfo} (ht : P.underlying t = some (.slice e)) (hi : P.info? e = some i) {x : Value} {m : Nat} {news : List Value} (hs : AppSrc P w u i.size x m news)
    {b o len cap : Nat} (hroom : len + m ≤ cap) (hc : ∀ j, j < news.length → (w.cell? ⟨b, o + len * i.size + j, none⟩).isSome = true) (hf : ∀ j, j < news.length → w.frozen? ⟨b, o + len * i.size + j, none⟩ = false) :
    (Builtin.append_ #[t, u] ty #[.slice (some ⟨b, o, none⟩) len cap, x]).run P w = .ok (.slice (some ⟨b, o, none⟩) (len + m) cap) (w.setCells b (o + len * i.size) news) := by
  have h1 := run_storeCells_cells (P := P) b (o + len * i.size) news 0 w (by simpa using hc) (by simpa using hf) hs.one
  simp only [Nat.add_zero] at h1
  rcases hs.ty with hu | ⟨e', hu⟩ <;> simp [Builtin.append_, run_underlying ht, run_underlying hu, Go.sizeOf, typeInfo, hi, hs.len, hroom, hs.cells w (fun _ => rfl), Addr.add_off, h1]
theorem run_app_none {P : Program} {w : World} {t u ty e : TypeId} {i : TypeInfo} (ht : P.underlying t = some (.slice e)) (hi : P.info? e = some i) {x : Value} {news : List Value} (hs : AppSrc P w u i.size x 0 news) :
    (Builtin.append_ #[t, u] ty #[.slice none 0 0, x]).run P w = .ok (.slice none 0 0) w := by
  rcases hs.ty with hu | ⟨e', hu⟩ <;> simp [Builtin.append_, run_underlying ht, run_underlying hu, Go.sizeOf, typeInfo, hi, hs.len, hs.cells w (fun _ => rfl)]
theorem run_app_grow {P : Program} {w : World} {t u ty e : TypeId} {i : TypeInfo} {z : Value} (ht : P.underlying t = some (.slice e)) (hi : P.info? e = some i) (hz : i.zero = some z) {x : Value} {m : Nat} {news : List Value} (hs : AppSrc P w u i.size x m news)
    {A : Option Addr} {len cap : Nat} {olds : List Value} (hold : ∀ w', (∀ a, w'.cell? a = w.cell? a) → (Builtin.firstCells i.size len (.slice A len cap)).run P w' = .ok olds.toArray w')
    (hg : cap < len + m) (h63 : len + m ≤ 9223372036854775807) (hb : (len + m) * i.bytes ≤ 140737488355328) :
    (Builtin.append_ #[t, u] ty #[.slice A len cap, x]).run P w = .ok (.slice (some ⟨w.heap.size, 0, none⟩) (len + m) (grownCap w (len + m) cap e))
        (w.drew.alloc (.cells (olds.toArray ++ news.toArray ++ Builtin.zeroCells z.cells (grownCap w (len + m) cap e - (len + m))) e)) := by
  have hn : ¬ (len + m ≤ cap) := by omega
  have h63' : ¬ (9223372036854775807 < ((len : Int) + (m : Int))) := by omega
  have h48' : ¬ (281474976710656 < Builtin.nextslicecap (len + m) cap * i.bytes) := by have := growslice_fits hg hb; omega
  have h1 := hold w.drew (fun _ => rfl)
  have h2 := hs.cells w.drew (fun _ => rfl)
  rcases hs.ty with hu | ⟨e', hu⟩ <;> simp [Builtin.append_, run_underlying ht, run_underlying hu, Go.sizeOf, typeInfo, zeroValue, hi, hz, hs.len, hn, h63', h48', Question.forced, h1, h2, newRow, grownCap]
  all_goals
    congr 2
    apply Array.ext'
    simp [List.append_assoc]
end Ev
namespace Ev
open Go Go.RowKit
set_option linter.unusedVariables false
set_option linter.unusedSimpArgs false

/-- What names the top of the root. -/
def hitTop (r : Nat) : Nat → Path → Bool := fun q p => match Nat.beq q r with
  | true => match p with
    | [] => true
    | _ => false
  | false => false
def appGh (g : Gh) (r b n cap : Nat) : Gh :=
  ⟨fun q p => if q = r ∧ p = [] then b else g.blk q p, fun q p => if q = r ∧ p = [] then 0 else g.off q p, fun q p => if q = r ∧ p = [] then n else g.sz q p, fun q p => if q = r ∧ p = [] then cap else g.cap q p, fun q p => if q = r ∧ p = [] then false else g.nl q p⟩
def appPm (pm : Nat → Nat → Option (Nat × Path)) (r b : Nat) : Nat → Nat → Option (Nat × Path) := fun b' o =>
  if b' = b then some (r, []) else match pm b' o with
    | some (q, p) => if q = r ∧ p = [] then none else some (q, p)
    | none => none
def St.app (s : St) (r : Nat) (o : Ob) (rows : List (List V)) : St := { s with tm := s.tm.map fun x => (x.1, kill (hitTop r) x.2), ob := (r, some { o with es := o.es ++ rows }) :: s.ob }

section
variable {β : Base} {s : St} {a : Act} {w : World} {g : Gh} {pm : Nat → Nat → Option (Nat × Path)} {C : Ctx}

theorem sub_app {d : Bool} {n : Nat} {es rows : List (List V)} (hp : ∀ (i j : Nat) (e : List V) (v : V), rows[i]? = some e → e[j]? = some v → Plain d v) (i j : Nat) (p : Path) : sub d n (es ++ rows) ((i, j) :: p) = sub d n es ((i, j) :: p) := by
  simp only [sub]
  by_cases h : i < es.length
  · rw [List.getElem?_append_left h]
  · rw [List.getElem?_append_right (by omega), List.getElem?_eq_none (show es.length ≤ i by omega)]
    cases he : rows[i - es.length]? with
    | none => rfl
    | some e =>
      dsimp only
      cases hv : e[j]? with
      | none => rfl
      | some v =>
        have := hp _ j e v he hv
        cases v with
        | own d' n' e' => exact this.elim
        | sl n' e' => cases d with
          | true => exact absurd (show true = false from this) (by decide)
          | false => rfl
        | _ => rfl
theorem hitTop_ne {r q : Nat} {p : Path} (h : hitTop r q p = false) : ¬ (q = r ∧ p = []) := by
  rintro ⟨rfl, rfl⟩
  unfold hitTop at h
  rw [Nat.beq_refl] at h; cases h
theorem setCells_cell : ∀ (vs : List Value) (w : World) (b o : Nat), (∀ j, j < vs.length → (w.cell? ⟨b, o + j, none⟩).isSome = true) → ∀ b' o', (w.setCells b o vs).cell? ⟨b', o', none⟩ = if b = b' ∧ o ≤ o' ∧ o' < o + vs.length then vs[o' - o]? else w.cell? ⟨b', o', none⟩
  | [], w, b, o, h, b', o' => by
    show w.cell? _ = _
    rw [if_neg (by simp only [List.length_nil]; omega)]
  | v :: vs, w, b, o, h, b', o' => by
    have h0 := h 0 (by simp)
    show ((w.setCell ⟨b, o, none⟩ v).setCells b (o + 1) vs).cell? ⟨b', o', none⟩ = _
    rw [setCells_cell vs _ b (o + 1) (fun j hj => by
      rw [setCell_cell w b o v h0]
      split
      · rfl
      · have := h (j + 1) (by simpa using hj); rwa [show o + (j + 1) = o + 1 + j by omega] at this), setCell_cell w b o v h0]
    simp only [List.length_cons]
    by_cases e : b = b'
    · subst e
      by_cases e1 : o = o'
      · subst e1
        rw [if_neg (by omega), if_pos ⟨rfl, rfl⟩, if_pos (by omega), Nat.sub_self]; rfl
      · by_cases e2 : o < o' ∧ o' < o + 1 + vs.length
        · rw [if_pos (by omega), if_pos (by omega), show o' - o = (o' - (o + 1)) + 1 by omega, List.getElem?_cons_succ]
        · rw [if_neg (by omega), if_neg (by omega), if_neg (by omega)]
    · rw [if_neg (by simp [e]), if_neg (by simp [e]), if_neg (by simp [e])]
theorem setCells_frozen : ∀ (vs : List Value) (w : World) (b o b' o' : Nat), (w.setCells b o vs).frozen? ⟨b', o', none⟩ = w.frozen? ⟨b', o', none⟩
  | [], w, b, o, b', o' => rfl
  | v :: vs, w, b, o, b', o' => by
    show ((w.setCell ⟨b, o, none⟩ v).setCells b (o + 1) vs).frozen? _ = _
    rw [setCells_frozen vs, setCell_frozen]
theorem setCells_heap : ∀ (vs : List Value) (w : World) (b o k : Nat), k ≠ b → (w.setCells b o vs).heap[k]? = w.heap[k]?
  | [], w, b, o, k, h => rfl
  | v :: vs, w, b, o, k, h => by
    show ((w.setCell ⟨b, o, none⟩ v).setCells b (o + 1) vs).heap[k]? = _
    rw [setCells_heap vs _ b (o + 1) k h, setCell_heap w b o v k h]
theorem setCells_size : ∀ (vs : List Value) (w : World) (b o : Nat), (w.setCells b o vs).heap.size = w.heap.size
  | [], w, b, o => rfl
  | v :: vs, w, b, o => by
    show ((w.setCell ⟨b, o, none⟩ v).setCells b (o + 1) vs).heap.size = _
    rw [setCells_size vs]
    show (w.heap.modify _ _).size = _
    rw [Array.size_modify]
theorem setCells_else : ∀ (vs : List Value) (w : World) (b o : Nat), (w.setCells b o vs).os = w.os ∧ (w.setCells b o vs).tape = w.tape ∧ (w.setCells b o vs).output = w.output
  | [], w, b, o => ⟨rfl, rfl, rfl⟩
  | v :: vs, w, b, o => setCells_else vs (w.setCell ⟨b, o, none⟩ v) b (o + 1)

/-- What stands in the cells of what is appended. -/
def RowsOk (w : World) (ok : Nat → Nat → Prop) (d : Bool) (n : Nat) (rows : List (List V)) (news : List Value) : Prop :=
  (∀ (i : Nat) (e : List V), rows[i]? = some e → e.length = n) ∧ ∀ (i j : Nat) (e : List V) (v : V), rows[i]? = some e → e[j]? = some v → Plain d v ∧ ∃ c, news[i * n + j]? = some c ∧ CR w ok noGh 0 [] d i j v c

theorem CR.plain {w : World} {ok : Nat → Nat → Prop} {g g' : Gh} {r r' : Nat} {p p' : Path} {d : Bool} {i j i' j' : Nat} {v : V} {c : Value} (hp : Plain d v) (h : CR w ok g r p d i j v c) : CR w ok g' r' p' d i' j' v c := by
  cases v with
  | own => exact hp.elim
  | sl n es =>
    have hp : d = false := hp
    subst hp; exact h
  | _ => exact h

/-- There is room. -/
theorem R.appRoom (h : R β s a w g pm) {r : Nat} {o : Ob} (ho : s.obj r = some o) (hr : s.ng ≤ r) (hnl : g.nl r [] = false) {rows : List (List V)} {news : List Value} (hroom : o.es.length + rows.length ≤ g.cap r []) (hnum : news.length = rows.length * o.sz) (hrows : RowsOk w (okc β pm) o.deep o.sz rows news) :
    R β (s.app r o rows) a (w.setCells (g.blk r []) (g.off r [] + o.es.length * o.sz) news) g pm ∧
    ∀ v x, VR w (okc β pm) g s.len v x → VR (w.setCells (g.blk r []) (g.off r [] + o.es.length * o.sz) news) (okc β pm) g (s.app r o rows).len (kill (hitTop r) v) x := by
  have hat0 : s.at r [] = some (o.es, o.deep, o.sz) := by unfold St.at; rw [ho]; rfl
  have hb := h.blk r [] _ _ _ hat0
  have hsz := hb.siz
  have hmine : ∀ k, k < g.cap r [] * o.sz → Mine w pm r [] (g.blk r []) (g.off r [] + k) := fun k hk => hb.mine hnl k (by rw [hsz]; exact hk)
  have hmul : (o.es.length + rows.length) * o.sz ≤ g.cap r [] * o.sz := Nat.mul_le_mul_right _ hroom
  rw [Nat.add_mul] at hmul
  have hsome : ∀ j, j < news.length → (w.cell? ⟨g.blk r [], g.off r [] + o.es.length * o.sz + j, none⟩).isSome = true := fun j hj => by
    have := (hmine (o.es.length * o.sz + j) (by omega)).2.2
    rwa [← Nat.add_assoc] at this
  have hcell := setCells_cell news w (g.blk r []) (g.off r [] + o.es.length * o.sz) hsome
  have hfz := setCells_frozen news w (g.blk r []) (g.off r [] + o.es.length * o.sz)
  -- what is written is the root's own, behind what it had
  have hhit : ∀ b' o', g.blk r [] = b' ∧ g.off r [] + o.es.length * o.sz ≤ o' ∧ o' < g.off r [] + o.es.length * o.sz + news.length → pm b' o' = some (r, []) := fun b' o' hh => by
    obtain ⟨rfl, h1, h2⟩ := hh
    have := (hmine (o' - g.off r []) (by omega)).1
    rwa [show g.off r [] + (o' - g.off r []) = o' by omega] at this
  have hk : ∀ b' o' c', okc β pm b' o' → w.cell? ⟨b', o', none⟩ = some c' → okc β pm b' o' ∧ (w.setCells (g.blk r []) (g.off r [] + o.es.length * o.sz) news).cell? ⟨b', o', none⟩ = some c' := fun b' o' c' h1 h2 => by
    refine ⟨h1, ?_⟩
    rw [hcell, if_neg (fun hh => ?_)]
    · exact h2
    · have := h1.1; rw [hhit _ _ hh] at this; cases this
  have hat : ∀ q p, (s.app r o rows).at q p = if r = q then sub o.deep o.sz (o.es ++ rows) p else s.at q p := fun q p => by
    unfold St.at St.obj St.app
    dsimp only
    rw [look_cons]
    by_cases e : r = q
    · rw [if_pos e, if_pos e]
    · rw [if_neg e, if_neg e]
  have hplain : ∀ (i j : Nat) (e : List V) (v : V), rows[i]? = some e → e[j]? = some v → Plain o.deep v := fun i j e v he hv => (hrows.2 i j e v he hv).1
  have hat2 : ∀ q p, ¬ (q = r ∧ p = []) → (s.app r o rows).at q p = s.at q p := fun q p hq => by
    rw [hat]
    by_cases e : r = q
    · subst e
      rw [if_pos rfl]
      cases p with
      | nil => exact absurd ⟨rfl, rfl⟩ hq
      | cons x p =>
        rw [sub_app hplain]
        unfold St.at; rw [ho]
    · rw [if_neg e]
  have hV : ∀ v x, VR w (okc β pm) g s.len v x → VR (w.setCells (g.blk r []) (g.off r [] + o.es.length * o.sz) news) (okc β pm) g (s.app r o rows).len (kill (hitTop r) v) x := fun v x hv => by
    refine hv.kill hk (fun q p m hm hh => ⟨?_, rfl, rfl, rfl, rfl, rfl⟩)
    unfold St.len at hm ⊢
    rw [hat2 q p (hitTop_ne hh)]; exact hm
  have hm2 : ∀ q p k, Mine w pm q p (g.blk q p) k → Mine (w.setCells (g.blk r []) (g.off r [] + o.es.length * o.sz) news) pm q p (g.blk q p) k := fun q p k hh => by
    refine ⟨hh.1, by rw [hfz]; exact hh.2.1, ?_⟩
    rw [hcell]
    split
    · rename_i h1
      rw [List.getElem?_eq_getElem (by omega)]; rfl
    · exact hh.2.2
  refine ⟨?_, hV⟩
  exact {
    defers := h.defers
    fsz := h.fsz
    tm := fun t => by
      have : (s.app r o rows).get t = kill (hitTop r) (s.get t) := by unfold St.get St.app; exact look_map V.dead V.dead _ rfl s.tm t
      rw [this]; exact hV _ _ (h.tm t)
    blk := fun q p es' d' n' hh => by
      by_cases e : q = r ∧ p = []
      · obtain ⟨rfl, rfl⟩ := e
        rw [hat, if_pos rfl] at hh
        obtain ⟨rfl, rfl, rfl⟩ : o.es ++ rows = es' ∧ o.deep = d' ∧ o.sz = n' := by simpa [sub] using hh
        refine ⟨hsz, fun hn => (by rw [hnl] at hn; cases hn), by rw [List.length_append]; exact hroom, fun i e he => ?_, fun hn k hkk => hm2 _ _ _ (hb.mine hn k hkk), fun i j e v he hv => ?_⟩
        · rw [hsz]
          by_cases hi : i < o.es.length
          · rw [List.getElem?_append_left hi] at he; rw [← hsz]; exact hb.row i e he
          · rw [List.getElem?_append_right (by omega)] at he; exact hrows.1 _ e he
        · by_cases hi : i < o.es.length
          · rw [List.getElem?_append_left hi] at he
            obtain ⟨c, c1, c2⟩ := hb.cell i j e v he hv
            refine ⟨c, ?_, CR.mono hk (fun _ => ⟨rfl, rfl, rfl, rfl, rfl⟩) c2⟩
            rw [hcell, if_neg]
            · exact c1
            · rintro ⟨_, h1, _⟩
              have hj := (List.getElem?_eq_some_iff.1 hv).1
              rw [hb.row i e he, hsz] at hj
              have : (i + 1) * o.sz ≤ o.es.length * o.sz := Nat.mul_le_mul_right _ (by omega)
              rw [Nat.add_mul, Nat.one_mul] at this
              rw [hsz] at h1
              omega
          · rw [List.getElem?_append_right (by omega)] at he
            obtain ⟨c1, c, c2, c3⟩ := hrows.2 _ j e v he hv
            refine ⟨c, ?_, (CR.mono (p := []) (r := 0) (r' := 0) (p' := []) hk (fun _ => ⟨rfl, rfl, rfl, rfl, rfl⟩) c3).plain c1⟩
            have hlt := (List.getElem?_eq_some_iff.1 c2).1
            have hii : i * o.sz = o.es.length * o.sz + (i - o.es.length) * o.sz := by rw [← Nat.add_mul]; congr 1; omega
            rw [hcell, hsz, if_pos ⟨rfl, by omega, by omega⟩, show g.off q [] + i * o.sz + j - (g.off q [] + o.es.length * o.sz) = (i - o.es.length) * o.sz + j by omega]
            exact c2
      · rw [hat2 q p e] at hh
        have hb' := h.blk q p es' d' n' hh
        refine ⟨hb'.siz, hb'.nil, hb'.len, hb'.row, fun hn k hkk => hm2 _ _ _ (hb'.mine hn k hkk), fun i j e' v he hv => ?_⟩
        obtain ⟨c, c1, c2⟩ := hb'.cell i j e' v he hv
        refine ⟨c, ?_, CR.mono hk (fun _ => ⟨rfl, rfl, rfl, rfl, rfl⟩) c2⟩
        rw [hcell, if_neg]
        · exact c1
        · intro h1
          obtain ⟨_, _, _, hmm⟩ := h.place hh he hv
          have h2 := hhit _ _ h1
          rw [hmm.1] at h2
          injection h2 with h2
          injection h2 with h2 h3
          exact e ⟨h2, h3⟩
    fresh := fun q hq => by
      show look none ((r, some _) :: s.ob) q = none
      rw [look_cons, if_neg (fun e => by rw [e, h.fresh q hq] at ho; cases ho)]
      exact h.fresh q hq
    own := h.own
    keep := {
      os := by rw [(setCells_else _ _ _ _).1]; exact h.keep.os
      tape := by rw [(setCells_else _ _ _ _).2.1]; exact h.keep.tape
      output := by rw [(setCells_else _ _ _ _).2.2]; exact h.keep.output
      size := by rw [setCells_size]; exact h.keep.size
      block := fun b hb0 h0 => by
        by_cases e : b = g.blk r []
        · by_cases hl : news.length = 0
          · obtain rfl := List.eq_nil_of_length_eq_zero hl
            exact h.keep.block b hb0 h0
          · have := hhit _ (g.off r [] + o.es.length * o.sz) ⟨e.symm, Nat.le_refl _, by omega⟩
            rcases h.own b _ (by rw [this]; simp) with h1 | h1
            · exact absurd (h0 _) h1
            · omega
        · rw [setCells_heap _ _ _ _ _ e]; exact h.keep.block b hb0 h0
      cell := fun b o' hb0 h0 => by
        rw [hcell, hfz, if_neg]
        · exact h.keep.cell b o' hb0 h0
        · intro hh
          have := hhit _ _ hh
          rcases h.own b o' (by rw [this]; simp) with h1 | h1
          · exact h1 h0
          · omega }
    low := fun b o' hb0 => by rw [setCells_size]; exact h.low b o' hb0
    ngnx := h.ngnx
    top := fun k hk => by
      have hk : k < s.ng := hk
      obtain ⟨t1, t2⟩ := h.top k hk
      refine ⟨t1, ?_⟩
      have : (s.app r o rows).shape k = s.shape k := by
        unfold St.shape St.obj St.app
        dsimp only
        rw [look_cons, if_neg (by omega)]
      rw [this]; exact t2 }
end
end Ev
namespace Ev
open Go Go.RowKit
set_option linter.unusedVariables false
set_option linter.unusedSimpArgs false
section
variable {β : Base} {s : St} {a : Act} {w : World} {g : Gh} {pm : Nat → Nat → Option (Nat × Path)} {C : Ctx}

theorem grow_cell (w : World) (cs : Array Value) (t : TypeId) {b : Nat} (hb : b ≠ w.heap.size) (o' : Nat) : (w.drew.alloc (.cells cs t)).cell? ⟨b, o', none⟩ = w.cell? ⟨b, o', none⟩ ∧ (w.drew.alloc (.cells cs t)).frozen? ⟨b, o', none⟩ = w.frozen? ⟨b, o', none⟩ := push_cell w.drew (.cells cs t) hb o'
theorem grow_new (w : World) (cs : Array Value) (t : TypeId) (o : Nat) : (w.drew.alloc (.cells cs t)).cell? ⟨w.heap.size, o, none⟩ = cs[o]? ∧ (w.drew.alloc (.cells cs t)).frozen? ⟨w.heap.size, o, none⟩ = false := push_new w.drew cs t o

theorem R.appGrow (h : R β s a w g pm) {r : Nat} {o : Ob} (ho : s.obj r = some o) (hr : s.ng ≤ r) {rows : List (List V)} {news : List Value} {cs : Array Value} {t : TypeId} {cap' : Nat} (hcap : o.es.length + rows.length ≤ cap') (hsize : cs.size = cap' * o.sz)
    (hold : ∀ (i j : Nat) (e : List V), o.es[i]? = some e → j < o.sz → cs[i * o.sz + j]? = w.cell? ⟨g.blk r [], g.off r [] + i * o.sz + j, none⟩)
    (hnew : ∀ k, k < news.length → cs[o.es.length * o.sz + k]? = news[k]?) (hrows : RowsOk w (okc β pm) o.deep o.sz rows news) :
    R β (s.app r o rows) a (w.drew.alloc (.cells cs t)) (appGh g r w.heap.size o.sz cap') (appPm pm r w.heap.size) ∧
    ∀ v x, VR w (okc β pm) g s.len v x → VR (w.drew.alloc (.cells cs t)) (okc β (appPm pm r w.heap.size)) (appGh g r w.heap.size o.sz cap') (s.app r o rows).len (kill (hitTop r) v) x := by
  have hat0 : s.at r [] = some (o.es, o.deep, o.sz) := by unfold St.at; rw [ho]; rfl
  have hb := h.blk r [] _ _ _ hat0
  have hsz := hb.siz
  have hsame : ∀ q p, ¬ (q = r ∧ p = []) → SameGh g (appGh g r w.heap.size o.sz cap') q q p p := fun q p hq => by
    unfold SameGh appGh; simp only [if_neg hq]; exact ⟨trivial, trivial, trivial, trivial, trivial⟩
  have hpm : ∀ b o', b ≠ w.heap.size → appPm pm r w.heap.size b o' = none ∨ (appPm pm r w.heap.size b o' = pm b o' ∧ pm b o' ≠ some (r, [])) := fun b o' hb0 => by
    unfold appPm
    rw [if_neg hb0]
    cases e : pm b o' with
    | none => exact .inl rfl
    | some x =>
      obtain ⟨q, p⟩ := x
      dsimp only
      split
      · exact .inl rfl
      · rename_i hh
        exact .inr ⟨rfl, fun e => by injection e with e; injection e with e1 e2; exact hh ⟨e1, e2⟩⟩
  have hpmE : ∀ b o' q p, pm b o' = some (q, p) → ¬ (q = r ∧ p = []) → appPm pm r w.heap.size b o' = some (q, p) := fun b o' q p hh hq => by
    have := h.low b o' (by rw [hh]; simp)
    unfold appPm
    rw [if_neg (by omega), hh]; dsimp only; rw [if_neg hq]
  have hk : ∀ b' o' c', okc β pm b' o' → w.cell? ⟨b', o', none⟩ = some c' → okc β (appPm pm r w.heap.size) b' o' ∧ (w.drew.alloc (.cells cs t)).cell? ⟨b', o', none⟩ = some c' := fun b' o' c' h1 h2 => by
    have hlt := cell_low h2
    refine ⟨⟨?_, h1.2⟩, by rw [(grow_cell w cs t (by omega) o').1]; exact h2⟩
    unfold appPm
    rw [if_neg (by omega), h1.1]
  have hat : ∀ q p, (s.app r o rows).at q p = if r = q then sub o.deep o.sz (o.es ++ rows) p else s.at q p := fun q p => by
    unfold St.at St.obj St.app
    dsimp only
    rw [look_cons]
    by_cases e : r = q
    · rw [if_pos e, if_pos e]
    · rw [if_neg e, if_neg e]
  have hplain : ∀ (i j : Nat) (e : List V) (v : V), rows[i]? = some e → e[j]? = some v → Plain o.deep v := fun i j e v he hv => (hrows.2 i j e v he hv).1
  have hat2 : ∀ q p, ¬ (q = r ∧ p = []) → (s.app r o rows).at q p = s.at q p := fun q p hq => by
    rw [hat]
    by_cases e : r = q
    · subst e
      rw [if_pos rfl]
      cases p with
      | nil => exact absurd ⟨rfl, rfl⟩ hq
      | cons x p =>
        rw [sub_app hplain]
        unfold St.at; rw [ho]
    · rw [if_neg e]
  have hV : ∀ v x, VR w (okc β pm) g s.len v x → VR (w.drew.alloc (.cells cs t)) (okc β (appPm pm r w.heap.size)) (appGh g r w.heap.size o.sz cap') (s.app r o rows).len (kill (hitTop r) v) x := fun v x hv => by
    refine hv.kill hk (fun q p m hm hh => ⟨?_, hsame q p (hitTop_ne hh)⟩)
    unfold St.len at hm ⊢
    rw [hat2 q p (hitTop_ne hh)]; exact hm
  refine ⟨?_, hV⟩
  exact {
    defers := h.defers
    fsz := h.fsz
    tm := fun u => by
      have : (s.app r o rows).get u = kill (hitTop r) (s.get u) := by unfold St.get St.app; exact look_map V.dead V.dead _ rfl s.tm u
      rw [this]; exact hV _ _ (h.tm u)
    blk := fun q p es' d' n' hh => by
      by_cases e : q = r ∧ p = []
      · obtain ⟨rfl, rfl⟩ := e
        rw [hat, if_pos rfl] at hh
        obtain ⟨rfl, rfl, rfl⟩ : o.es ++ rows = es' ∧ o.deep = d' ∧ o.sz = n' := by simpa [sub] using hh
        have hrow : ∀ (i : Nat) (e : List V), (o.es ++ rows)[i]? = some e → e.length = o.sz := fun i e he => by
          by_cases hi : i < o.es.length
          · rw [List.getElem?_append_left hi] at he; rw [← hsz]; exact hb.row i e he
          · rw [List.getElem?_append_right (by omega)] at he; exact hrows.1 _ e he
        refine ⟨by simp [appGh], fun hn => by simp [appGh] at hn, by rw [List.length_append]; simpa [appGh] using hcap, fun i e he => by simpa [appGh] using hrow i e he, fun hn k hkk => ?_, fun i j e v he hv => ?_⟩
        · simp only [appGh, and_self, if_true, Nat.zero_add] at hkk ⊢
          refine ⟨by simp [appPm], (grow_new w cs t k).2, ?_⟩
          rw [(grow_new w cs t k).1, Array.getElem?_eq_getElem (by omega)]; rfl
        · simp only [appGh, and_self, if_true, Nat.zero_add]
          have hj := (List.getElem?_eq_some_iff.1 hv).1
          rw [hrow i e he] at hj
          by_cases hi : i < o.es.length
          · rw [List.getElem?_append_left hi] at he
            obtain ⟨c, c1, c2⟩ := hb.cell i j e v he hv
            rw [hsz] at c1
            refine ⟨c, by rw [(grow_new w cs t _).1, hold i j e he hj]; exact c1, CR.mono hk (fun _ => hsame _ _ (fun hh => by simp at hh)) c2⟩
          · rw [List.getElem?_append_right (by omega)] at he
            obtain ⟨c1, c, c2, c3⟩ := hrows.2 _ j e v he hv
            have hlt := (List.getElem?_eq_some_iff.1 c2).1
            have hii : i * o.sz = o.es.length * o.sz + (i - o.es.length) * o.sz := by rw [← Nat.add_mul]; congr 1; omega
            refine ⟨c, ?_, (CR.mono (p := []) (r := 0) (r' := 0) (p' := []) (g' := noGh) hk (fun _ => ⟨rfl, rfl, rfl, rfl, rfl⟩) c3).plain c1⟩
            rw [(grow_new w cs t _).1, hii, Nat.add_assoc, hnew _ hlt]; exact c2
      · rw [hat2 q p e] at hh
        have hb' := h.blk q p es' d' n' hh
        obtain ⟨e1, e2, e3, e4, e5⟩ := hsame q p e
        refine ⟨by rw [e3]; exact hb'.siz, by rw [e5]; exact hb'.nil, by rw [e4]; exact hb'.len, by rw [e3]; exact hb'.row, ?_, fun i j e' v he hv => ?_⟩
        · rw [e1, e2, e3, e4, e5]
          intro hn k hkk
          obtain ⟨m1, m2, m3⟩ := hb'.mine hn k hkk
          have hlow := h.low _ _ (by rw [m1]; simp)
          exact ⟨hpmE _ _ _ _ m1 e, by rw [(grow_cell w cs t (by omega) _).2]; exact m2, by rw [(grow_cell w cs t (by omega) _).1]; exact m3⟩
        · rw [e1, e2, e3]
          obtain ⟨c, c1, c2⟩ := hb'.cell i j e' v he hv
          have := cell_low c1
          exact ⟨c, by rw [(grow_cell w cs t (by omega) _).1]; exact c1, CR.mono hk (fun _ => hsame _ _ (fun hh => by simp at hh)) c2⟩
    fresh := fun q hq => by
      show look none ((r, some _) :: s.ob) q = none
      rw [look_cons, if_neg (fun e => by rw [e, h.fresh q hq] at ho; cases ho)]
      exact h.fresh q hq
    own := fun b o' hb0 => by
      by_cases e : b = w.heap.size
      · exact .inr (by rw [e]; exact h.keep.size)
      · rcases hpm b o' e with h1 | h1
        · exact absurd h1 hb0
        · rw [h1.1] at hb0; exact h.own b o' hb0
    keep := {
      os := h.keep.os, tape := h.keep.tape, output := h.keep.output
      size := by show β.w0.heap.size ≤ (w.heap.push _).size; rw [Array.size_push]; have := h.keep.size; omega
      block := fun b hb0 h0 => by
        have := h.keep.size
        show (w.heap.push _)[b]? = _
        rw [Array.getElem?_push, if_neg (by omega)]; exact h.keep.block b hb0 h0
      cell := fun b o' hb0 h0 => by
        have := h.keep.size
        rw [(grow_cell w cs t (by omega) o').1, (grow_cell w cs t (by omega) o').2]; exact h.keep.cell b o' hb0 h0 }
    low := fun b o' hb0 => by
      show b < (w.heap.push _).size
      rw [Array.size_push]
      by_cases e : b = w.heap.size
      · omega
      · rcases hpm b o' e with h1 | h1
        · exact absurd h1 hb0
        · rw [h1.1] at hb0; have := h.low b o' hb0; omega
    ngnx := h.ngnx
    top := fun k hk0 => by
      have hk0 : k < s.ng := hk0
      obtain ⟨t1, t2⟩ := h.top k hk0
      obtain ⟨e1, e2, e3, e4, e5⟩ := hsame k [] (by omega)
      refine ⟨⟨e1.trans t1.1, e2.trans t1.2.1, e3.trans t1.2.2.1, e4.trans t1.2.2.2.1, e5.trans t1.2.2.2.2⟩, ?_⟩
      have : (s.app r o rows).shape k = s.shape k := by
        unfold St.shape St.obj St.app
        dsimp only
        rw [look_cons, if_neg (by omega)]
      rw [this]; exact t2 }

/-- append to a root: whatever is appended, the state is told alike. -/
theorem R.append {P : Program} (h : R β s a w g pm) {r : Nat} {o : Ob} (ho : s.obj r = some o) (hr : s.ng ≤ r) {t u ty e : TypeId} {info : TypeInfo} {z : Value} (ht : P.underlying t = some (.slice e)) (hi : P.info? e = some info) (hz : info.zero = some z) (hzs : z.cells.size = info.size) (hsz : info.size = o.sz)
    {c x : Value} (hc : RefHdr g r [] 0 o.es.length c) {rows : List (List V)} {news : List Value} (hs : AppSrc P w u o.sz x rows.length news) (hrows : RowsOk w (okc β pm) o.deep o.sz rows news) (hbound : (o.es.length + rows.length) * info.bytes ≤ 140737488355328) (h63 : o.es.length + rows.length ≤ 9223372036854775807) :
    ∃ c' w' g' pm', (Builtin.append_ #[t, u] ty #[c, x]).run P w = .ok c' w' ∧ R β (s.app r o rows) a w' g' pm' ∧ RefHdr g' r [] 0 (o.es.length + rows.length) c' ∧
      (∀ v y, VR w (okc β pm) g s.len v y → VR w' (okc β pm') g' (s.app r o rows).len (kill (hitTop r) v) y) ∧ (∀ q p, ¬ (q = r ∧ p = []) → SameGh g g' q q p p) ∧
      (∀ b o', pm b o' ≠ none → ¬ (pm b o' = some (r, [])) → w'.cell? ⟨b, o', none⟩ = w.cell? ⟨b, o', none⟩) ∧
      (∀ k, k < news.length → w'.cell? ⟨g'.blk r [], g'.off r [] + o.es.length * o.sz + k, none⟩ = news[k]?) := by
  have hat0 : s.at r [] = some (o.es, o.deep, o.sz) := by unfold St.at; rw [ho]; rfl
  have hb := h.blk r [] _ _ _ hat0
  have hsz0 := hb.siz
  rw [← hsz] at hs
  have grow : ∀ (A : Option Addr) (cap : Nat) (olds : List Value), (∀ w', (∀ a, w'.cell? a = w.cell? a) → (Builtin.firstCells info.size o.es.length (.slice A o.es.length cap)).run P w' = .ok olds.toArray w') → olds.length = o.es.length * o.sz →
      (∀ (i j : Nat) (e : List V), o.es[i]? = some e → j < o.sz → olds[i * o.sz + j]? = w.cell? ⟨g.blk r [], g.off r [] + i * o.sz + j, none⟩) → cap < o.es.length + rows.length → c = .slice A o.es.length cap → ∃ c' w' g' pm', (Builtin.append_ #[t, u] ty #[c, x]).run P w = .ok c' w' ∧ R β (s.app r o rows) a w' g' pm' ∧ RefHdr g' r [] 0 (o.es.length + rows.length) c' ∧
      (∀ v y, VR w (okc β pm) g s.len v y → VR w' (okc β pm') g' (s.app r o rows).len (kill (hitTop r) v) y) ∧ (∀ q p, ¬ (q = r ∧ p = []) → SameGh g g' q q p p) ∧
      (∀ b o', pm b o' ≠ none → ¬ (pm b o' = some (r, [])) → w'.cell? ⟨b, o', none⟩ = w.cell? ⟨b, o', none⟩) ∧
      (∀ k, k < news.length → w'.cell? ⟨g'.blk r [], g'.off r [] + o.es.length * o.sz + k, none⟩ = news[k]?) := fun A cap olds hold hol hoc hg hcc => by
    have hrun := run_app_grow (ty := ty) ht hi hz hs hold hg h63 hbound
    have hge := grownCap_ge w (o.es.length + rows.length) cap e
    have hnum : news.length = rows.length * o.sz := by rw [hs.num, hsz]
    have hsum : (o.es.length + rows.length) * o.sz ≤ grownCap w (o.es.length + rows.length) cap e * o.sz := Nat.mul_le_mul_right _ hge
    obtain ⟨h1, h2⟩ := h.appGrow (t := e) ho hr (rows := rows) (news := news) (cs := olds.toArray ++ news.toArray ++ Builtin.zeroCells z.cells (grownCap w (o.es.length + rows.length) cap e - (o.es.length + rows.length))) (cap' := grownCap w (o.es.length + rows.length) cap e) hge (by
        simp only [Array.size_append, List.size_toArray, size_zeroCells, hzs, hol, hnum, hsz, Nat.sub_mul]
        rw [Nat.add_mul] at hsum ⊢
        omega) (fun i j e' he hj => by
        rw [← hoc i j e' he hj]
        have hi' := (List.getElem?_eq_some_iff.1 he).1
        have : (i + 1) * o.sz ≤ o.es.length * o.sz := Nat.mul_le_mul_right _ (by omega)
        rw [Nat.add_mul, Nat.one_mul] at this
        rw [Array.getElem?_append_left (by simp [hol]; omega), Array.getElem?_append_left (by simp [hol]; omega)]
        simp) (fun k hk => by
        rw [Array.getElem?_append_left (by simp [hol]; omega), Array.getElem?_append_right (by simp [hol])]
        simp [hol]) hrows
    refine ⟨_, _, _, _, by rw [hcc]; exact hrun, h1, .inr ⟨by simp [appGh], _, _, rfl, hge, fun _ => by simp [appGh], fun _ => by simp [appGh]⟩, h2, fun q p hq => by unfold SameGh appGh; simp only [if_neg hq]; exact ⟨trivial, trivial, trivial, trivial, trivial⟩, fun b o' hb0 _ => ?_, fun k hk => ?_⟩
    · have := h.low b o' hb0
      rw [(grow_cell w _ e (by omega) o').1]
    · simp only [appGh, and_self, if_true, Nat.zero_add]
      rw [(grow_new w _ e _).1, Array.getElem?_append_left (by simp [hol]; omega), Array.getElem?_append_right (by simp [hol])]
      simp [hol]
  rcases hc with ⟨hnl, rfl, h0⟩ | ⟨hnl, A, cap', rfl, hcap, _, h3⟩
  · have hes : o.es = [] := List.eq_nil_of_length_eq_zero h0
    by_cases hm : rows.length = 0
    · have hrows0 : rows = [] := List.eq_nil_of_length_eq_zero hm
      subst hrows0
      have hn0 : news = [] := List.eq_nil_of_length_eq_zero (by rw [hs.num]; simp)
      subst hn0
      have hrun := run_app_none (ty := ty) ht hi hs
      have hid : (s.app r o []).len = s.len := by
        funext q p
        unfold St.len St.at St.obj St.app
        dsimp only
        rw [look_cons]
        by_cases e1 : r = q
        · subst e1
          rw [if_pos rfl]
          have ho' : look none s.ob r = some o := ho
          rw [ho']
          simp
        · rw [if_neg e1]
      have hV : ∀ v y, VR w (okc β pm) g s.len v y → VR w (okc β pm) g (s.app r o []).len (kill (hitTop r) v) y := fun v y hv => by
        rw [hid]
        exact hv.kill (fun _ _ _ h1 h2 => ⟨h1, h2⟩) (fun q p m hm _ => ⟨hm, rfl, rfl, rfl, rfl, rfl⟩)
      refine ⟨_, w, g, pm, hrun, ?_, .inl ⟨hnl, rfl, by simpa using h0⟩, hV, fun _ _ _ => ⟨rfl, rfl, rfl, rfl, rfl⟩, fun _ _ _ _ => rfl, fun k hk => by simp at hk⟩
      have hat : ∀ q p, (s.app r o []).at q p = s.at q p := fun q p => by
        unfold St.at St.obj St.app
        dsimp only
        rw [look_cons]
        by_cases e1 : r = q
        · subst e1
          rw [if_pos rfl]
          have ho' : look none s.ob r = some o := ho
          rw [ho']; simp
        · rw [if_neg e1]
      exact {
        defers := h.defers, fsz := h.fsz
        tm := fun u => by
          have : (s.app r o []).get u = kill (hitTop r) (s.get u) := by unfold St.get St.app; exact look_map V.dead V.dead _ rfl s.tm u
          rw [this]; exact hV _ _ (h.tm u)
        blk := fun q p es' d' n' hh => by rw [hat] at hh; exact h.blk q p es' d' n' hh
        fresh := fun q hq => by
          show look none ((r, some _) :: s.ob) q = none
          rw [look_cons, if_neg (fun e => by rw [e, h.fresh q hq] at ho; cases ho)]
          exact h.fresh q hq
        own := h.own, keep := h.keep, low := h.low, ngnx := h.ngnx
        top := fun k hk0 => by
          have hk0 : k < s.ng := hk0
          obtain ⟨t1, t2⟩ := h.top k hk0
          refine ⟨t1, ?_⟩
          have : (s.app r o []).shape k = s.shape k := by
            unfold St.shape St.obj St.app
            dsimp only
            rw [look_cons, if_neg (by omega)]
          rw [this]; exact t2 }
    · exact grow none 0 [] (fun w' _ => by rw [h0]; simp [Builtin.firstCells]) (by simp [hes]) (fun i j e he => by simp [hes] at he) (by omega) (by rw [h0])
  · obtain ⟨hA, hcap'⟩ := h3 rfl
    subst hA
    subst hcap'
    have hmine : ∀ k, k < g.cap r [] * o.sz → Mine w pm r [] (g.blk r []) (g.off r [] + k) := fun k hk => hb.mine hnl k (by rw [hsz0]; exact hk)
    by_cases hroom : o.es.length + rows.length ≤ g.cap r []
    · have hmul : (o.es.length + rows.length) * o.sz ≤ g.cap r [] * o.sz := Nat.mul_le_mul_right _ hroom
      rw [Nat.add_mul] at hmul
      have hnum : news.length = rows.length * o.sz := by rw [hs.num, hsz]
      have hm : ∀ j, j < news.length → Mine w pm r [] (g.blk r []) (g.off r [] + o.es.length * o.sz + j) := fun j hj => by
        have := hmine (o.es.length * o.sz + j) (by omega)
        rwa [← Nat.add_assoc] at this
      have hrun := run_app_room (ty := ty) ht hi hs hroom (fun j hj => by rw [hsz]; exact (hm j hj).2.2) (fun j hj => by rw [hsz]; exact (hm j hj).2.1)
      rw [hsz] at hrun
      obtain ⟨h1, h2⟩ := h.appRoom ho hr hnl hroom hnum hrows
      have hcell := setCells_cell news w (g.blk r []) (g.off r [] + o.es.length * o.sz) (fun j hj => (hm j hj).2.2)
      refine ⟨_, _, _, _, hrun, h1, .inr ⟨hnl, _, _, rfl, hroom, fun _ => by simp, fun _ => ⟨rfl, rfl⟩⟩, h2, fun _ _ _ => ⟨rfl, rfl, rfl, rfl, rfl⟩, fun b o' hb0 hb1 => ?_, fun k hk => ?_⟩
      · rw [hcell, if_neg]
        rintro ⟨rfl, k1, k2⟩
        have := (hm (o' - (g.off r [] + o.es.length * o.sz)) (by omega)).1
        rw [show g.off r [] + o.es.length * o.sz + (o' - (g.off r [] + o.es.length * o.sz)) = o' by omega] at this
        exact hb1 this
      · rw [hcell, if_pos ⟨rfl, by omega, by omega⟩, show g.off r [] + o.es.length * o.sz + k - (g.off r [] + o.es.length * o.sz) = k by omega]
    · refine grow _ _ ((List.range (o.es.length * o.sz)).map fun k => (w.cell? ⟨g.blk r [], g.off r [] + k, none⟩).getD undef) (fun w' hw => ?_) (by simp) (fun i j e he hj => ?_) (by omega) rfl
      · refine run_firstCells_some w' info.size o.es.length _ o.es.length _ _ (by simp [hsz]) (fun j v hj => ?_)
        rw [List.getElem?_map] at hj
        cases e1 : (List.range (o.es.length * o.sz))[j]? with
        | none => rw [e1] at hj; cases hj
        | some k =>
          rw [e1] at hj
          obtain ⟨h4, h5⟩ := List.getElem?_eq_some_iff.1 e1
          simp at h4 h5
          subst h5
          have hmul : o.es.length * o.sz ≤ g.cap r [] * o.sz := Nat.mul_le_mul_right _ hb.len
          have hm := (hmine j (by omega)).2.2
          obtain ⟨cv, hcv⟩ := Option.isSome_iff_exists.1 hm
          rw [hw, Addr.add_off]
          simp [hcv] at hj
          rw [← hj]; exact hcv
      · have hi' := (List.getElem?_eq_some_iff.1 he).1
        have h6 : (i + 1) * o.sz ≤ o.es.length * o.sz := Nat.mul_le_mul_right _ (by omega)
        rw [Nat.add_mul, Nat.one_mul] at h6
        have hmul : o.es.length * o.sz ≤ g.cap r [] * o.sz := Nat.mul_le_mul_right _ hb.len
        obtain ⟨cv, hcv⟩ := Option.isSome_iff_exists.1 (hmine (i * o.sz + j) (by omega)).2.2
        rw [List.getElem?_map, List.getElem?_range (by omega)]
        rw [← Nat.add_assoc] at hcv
        simp [hcv, ← Nat.add_assoc]
end
end Ev
namespace Ev
open Go Go.RowKit
set_option linter.unusedVariables false
set_option linter.unusedSimpArgs false

/-- Where a place stood before. -/
def oldAbs (q r len : Nat) (r' : Nat) (p' : Path) : Nat × Path :=
  if r' = r then match p' with
    | (i, j) :: p => if len ≤ i then (q, (i - len, j) :: p) else (r', p')
    | [] => (r', p')
  else (r', p')
def absGh (g : Gh) (q r len : Nat) : Gh :=
  ⟨fun r' p' => g.blk (oldAbs q r len r' p').1 (oldAbs q r len r' p').2, fun r' p' => g.off (oldAbs q r len r' p').1 (oldAbs q r len r' p').2, fun r' p' => g.sz (oldAbs q r len r' p').1 (oldAbs q r len r' p').2, fun r' p' => g.cap (oldAbs q r len r' p').1 (oldAbs q r len r' p').2, fun r' p' => g.nl (oldAbs q r len r' p').1 (oldAbs q r len r' p').2⟩
def absPm (pm : Nat → Nat → Option (Nat × Path)) (q r len : Nat) : Nat → Nat → Option (Nat × Path) := fun b o =>
  match pm b o with
  | some (q0, p0) => if q0 = q then match p0 with
    | [] => none
    | (i, j) :: p => some (r, (i + len, j) :: p)
    else some (q0, p0)
  | none => none
theorem absGh_new (g : Gh) (q r len i j : Nat) (p : Path) : SameGh g (absGh g q r len) q r ((i, j) :: p) ((i + len, j) :: p) := by
  have : oldAbs q r len r ((i + len, j) :: p) = (q, (i, j) :: p) := by
    unfold oldAbs; rw [if_pos rfl]; dsimp only; rw [if_pos (by omega), show i + len - len = i by omega]
  unfold SameGh absGh
  dsimp only
  rw [this]; exact ⟨rfl, rfl, rfl, rfl, rfl⟩
theorem absGh_else (g : Gh) (q r len : Nat) {r' : Nat} {p' : Path} (h : r' = r → ∀ i j p, p' = (i, j) :: p → i < len) : SameGh g (absGh g q r len) r' r' p' p' := by
  have : oldAbs q r len r' p' = (r', p') := by
    unfold oldAbs
    split
    · rename_i e
      split
      · rename_i i j p
        rw [if_neg (by have := h e i j p rfl; omega)]
      · rfl
    · rfl
  unfold SameGh absGh
  dsimp only
  rw [this]; exact ⟨rfl, rfl, rfl, rfl, rfl⟩
theorem sub_left {d : Bool} {n : Nat} {es es' : List (List V)} {i : Nat} (h : i < es.length) (j : Nat) (p : Path) : sub d n (es ++ es') ((i, j) :: p) = sub d n es ((i, j) :: p) := by
  simp only [sub]; rw [List.getElem?_append_left h]
theorem sub_right {d : Bool} {n : Nat} {es es' : List (List V)} {i : Nat} (h : es.length ≤ i) (j : Nat) (p : Path) : sub d n (es ++ es') ((i, j) :: p) = sub d n es' ((i - es.length, j) :: p) := by
  simp only [sub]; rw [List.getElem?_append_right h]
theorem sub_deads {d : Bool} {n : Nat} {rows : List (List V)} (hd : ∀ (i j : Nat) (e : List V) (v : V), rows[i]? = some e → e[j]? = some v → v = .dead) (i j : Nat) (p : Path) : sub d n rows ((i, j) :: p) = none := sub_plain (fun i j e v he hv => by rw [hd i j e v he hv]; trivial) (i, j) p

section
variable {β : Base} {s : St} {a : Act} {w : World} {g : Gh} {pm : Nat → Nat → Option (Nat × Path)} {C : Ctx}

def St.absorb (s : St) (r q : Nat) (o : Ob) (es : List (List V)) : St := { s with tm := s.tm.map fun x => (x.1, kill (hitRoot q) x.2), ob := (r, some { o with es := es }) :: (q, none) :: s.ob }

theorem R.absorb (h : R β s a w g pm) {r : Nat} {o : Ob} (ho : s.obj r = some o) {es0 rows : List (List V)} (hes : o.es = es0 ++ rows) (hdead : ∀ (i j : Nat) (e : List V) (v : V), rows[i]? = some e → e[j]? = some v → v = .dead)
    {q : Nat} {oq : Ob} (hq : s.obj q = some oq) (hqr : q ≠ r) (hng : s.ng ≤ q) (hrng : s.ng ≤ r) (hd : oq.deep = o.deep) (hn : oq.sz = o.sz) (hl : oq.es.length = rows.length)
    (hcells : ∀ (i j : Nat) (e : List V), oq.es[i]? = some e → j < o.sz → w.cell? ⟨g.blk r [], g.off r [] + (es0.length + i) * o.sz + j, none⟩ = w.cell? ⟨g.blk q [], g.off q [] + i * o.sz + j, none⟩) :
    R β (s.absorb r q o (es0 ++ oq.es)) a w (absGh g q r es0.length) (absPm pm q r es0.length) ∧
    ∀ v x, VR w (okc β pm) g s.len v x → (∀ p, v ≠ .hdr q p) → VR w (okc β (absPm pm q r es0.length)) (absGh g q r es0.length) (s.absorb r q o (es0 ++ oq.es)).len (kill (hitRoot q) v) x := by
  have hat0 : s.at r [] = some (o.es, o.deep, o.sz) := by unfold St.at; rw [ho]; rfl
  have hatq : s.at q [] = some (oq.es, oq.deep, oq.sz) := by unfold St.at; rw [hq]; rfl
  have hb := h.blk r [] _ _ _ hat0
  have hbq := h.blk q [] _ _ _ hatq
  have hat : ∀ r' p', (s.absorb r q o (es0 ++ oq.es)).at r' p' = if r = r' then sub o.deep o.sz (es0 ++ oq.es) p' else if q = r' then none else s.at r' p' := fun r' p' => by
    unfold St.at St.obj St.absorb
    dsimp only
    rw [look_cons, look_cons]
    by_cases e : r = r'
    · rw [if_pos e, if_pos e]
    · rw [if_neg e, if_neg e]
      by_cases e2 : q = r'
      · rw [if_pos e2, if_pos e2]
      · rw [if_neg e2, if_neg e2]
  have hsr : ∀ p', s.at r p' = sub o.deep o.sz o.es p' := fun p' => by unfold St.at; rw [ho]
  have hsq : ∀ p', s.at q p' = sub o.deep o.sz oq.es p' := fun p' => by unfold St.at; rw [hq]; dsimp only; rw [hd, hn]
  have hnew : ∀ i j p', es0.length ≤ i → (s.absorb r q o (es0 ++ oq.es)).at r ((i, j) :: p') = s.at q ((i - es0.length, j) :: p') := fun i j p' hi => by rw [hat, if_pos rfl, sub_right hi, hsq]
  have hold : ∀ r' p', r' ≠ q → (r' = r → ∀ i j p, p' = (i, j) :: p → i < es0.length) → ¬ (r' = r ∧ p' = []) → (s.absorb r q o (es0 ++ oq.es)).at r' p' = s.at r' p' := fun r' p' h1 h2 h3 => by
    rw [hat]
    by_cases e : r = r'
    · subst e
      rw [if_pos rfl, hsr, hes]
      cases p' with
      | nil => exact absurd ⟨rfl, rfl⟩ h3
      | cons x p =>
        obtain ⟨i, j⟩ := x
        have := h2 rfl i j p rfl
        rw [sub_left this, sub_left this]
    · rw [if_neg e, if_neg (fun e => h1 e.symm)]
  have hstay : ∀ r' p', s.at r' p' ≠ none → r' = r → ∀ i j p, p' = (i, j) :: p → i < es0.length := fun r' p' hne e i j p hp => by
    subst e; subst hp
    rw [hsr, hes] at hne
    rcases Nat.lt_or_ge i es0.length with h1 | h1
    · exact h1
    · rw [sub_right h1, sub_deads hdead] at hne; exact absurd rfl hne
  have hok : ∀ b o', okc β pm b o' → okc β (absPm pm q r es0.length) b o' := fun b o' h1 => ⟨by unfold absPm; rw [h1.1], h1.2⟩
  have hk : ∀ b o' c', okc β pm b o' → w.cell? ⟨b, o', none⟩ = some c' → okc β (absPm pm q r es0.length) b o' ∧ w.cell? ⟨b, o', none⟩ = some c' := fun b o' c' h1 h2 => ⟨hok b o' h1, h2⟩
  have hpm : ∀ b o' r' p', pm b o' = some (r', p') → r' ≠ q → absPm pm q r es0.length b o' = some (r', p') := fun b o' r' p' h1 h2 => by unfold absPm; rw [h1]; dsimp only; rw [if_neg h2]
  have hpmq : ∀ b o' i j p', pm b o' = some (q, (i, j) :: p') → absPm pm q r es0.length b o' = some (r, (i + es0.length, j) :: p') := fun b o' i j p' h1 => by unfold absPm; rw [h1]; dsimp only; rw [if_pos rfl]
  have hpmn : ∀ b o', absPm pm q r es0.length b o' ≠ none → pm b o' ≠ none := fun b o' h1 h2 => h1 (by unfold absPm; rw [h2])
  have hlenr : (es0 ++ oq.es).length = o.es.length := by rw [hes, List.length_append, List.length_append, hl]
  have hlenE : ∀ r' p' m, r' ≠ q → s.len r' p' = some m → (s.absorb r q o (es0 ++ oq.es)).len r' p' = some m ∧ SameGh g (absGh g q r es0.length) r' r' p' p' := fun r' p' m h1 hm => by
    have hne : s.at r' p' ≠ none := fun e => by unfold St.len at hm; rw [e] at hm; cases hm
    refine ⟨?_, absGh_else g q r _ (hstay r' p' hne)⟩
    unfold St.len at hm ⊢
    by_cases e : r' = r ∧ p' = []
    · obtain ⟨rfl, rfl⟩ := e
      rw [hat, if_pos rfl]
      rw [hat0] at hm
      simp only [sub, Option.map_some, Option.some.injEq] at hm ⊢
      rw [hlenr]; exact hm
    · rw [hold r' p' h1 (hstay r' p' hne) e]; exact hm
  have hV : ∀ v x, VR w (okc β pm) g s.len v x → VR w (okc β (absPm pm q r es0.length)) (absGh g q r es0.length) (s.absorb r q o (es0 ++ oq.es)).len (kill (hitRoot q) v) x := fun v x hv => by
    refine hv.kill hk (fun r' p' m hm hh => hlenE r' p' m (fun e => ?_) hm)
    subst e
    unfold hitRoot at hh
    rw [Nat.beq_refl] at hh; cases hh
  refine ⟨?_, fun v x hv _ => hV v x hv⟩
  exact {
    defers := h.defers
    fsz := h.fsz
    tm := fun t => by
      have : (s.absorb r q o (es0 ++ oq.es)).get t = kill (hitRoot q) (s.get t) := by unfold St.get St.absorb; exact look_map V.dead V.dead _ rfl s.tm t
      rw [this]; exact hV _ _ (h.tm t)
    blk := fun r' p' es' d' n' hh => by
      by_cases e1 : r' = q
      · subst e1
        rw [hat, if_neg (fun e => hqr e.symm), if_pos rfl] at hh; cases hh
      by_cases e2 : r' = r ∧ p' = []
      · obtain ⟨rfl, rfl⟩ := e2
        rw [hat, if_pos rfl] at hh
        obtain ⟨rfl, rfl, rfl⟩ : es0 ++ oq.es = es' ∧ o.deep = d' ∧ o.sz = n' := by simpa [sub] using hh
        obtain ⟨f1, f2, f3, f4, f5⟩ := absGh_else g q r' es0.length (r' := r') (p' := []) (fun _ i j p hp => by cases hp)
        refine ⟨by rw [f3]; exact hb.siz, fun hnl => ?_, by rw [f4, hlenr]; exact hb.len, fun i e he => ?_, ?_, fun i j e v he hv => ?_⟩
        · rw [f5] at hnl
          have := hb.nil hnl
          exact List.eq_nil_of_length_eq_zero (by rw [hlenr, this]; rfl)
        · rw [f3, hb.siz]
          by_cases hi : i < es0.length
          · rw [List.getElem?_append_left hi] at he
            rw [← hb.siz]; exact hb.row i e (by rw [hes, List.getElem?_append_left hi]; exact he)
          · rw [List.getElem?_append_right (by omega)] at he
            rw [← hn, ← hbq.siz]; exact hbq.row _ e he
        · rw [f1, f2, f3, f4, f5]
          intro hnl k hkk
          obtain ⟨m1, m2, m3⟩ := hb.mine hnl k hkk
          exact ⟨hpm _ _ _ _ m1 e1, m2, m3⟩
        · rw [f1, f2, f3]
          by_cases hi : i < es0.length
          · rw [List.getElem?_append_left hi] at he
            obtain ⟨c, c1, c2⟩ := hb.cell i j e v (by rw [hes, List.getElem?_append_left hi]; exact he) hv
            exact ⟨c, c1, CR.mono hk (fun _ => absGh_else g q r' es0.length (fun _ i' j' p hp => by
              simp only [List.nil_append, List.cons.injEq, Prod.mk.injEq] at hp
              omega)) c2⟩
          · rw [List.getElem?_append_right (by omega)] at he
            obtain ⟨c, c1, c2⟩ := hbq.cell _ j e v he hv
            have hj := (List.getElem?_eq_some_iff.1 hv).1
            rw [hbq.row _ e he, hbq.siz, hn] at hj
            refine ⟨c, ?_, ?_⟩
            · have := hcells _ j e he hj
              rw [show es0.length + (i - es0.length) = i by omega] at this
              rw [hb.siz, this]
              rw [hbq.siz, hn] at c1; exact c1
            · rw [← hd]
              have key : CR w (okc β (absPm pm q r' es0.length)) (absGh g q r' es0.length) r' [] oq.deep (i - es0.length + es0.length) j v c := by
                have hg := absGh_new g q r' es0.length (i - es0.length) j []
                cases v with
                | own d1 n1 es1 => exact RefHdr.same (show RefHdr g q _ _ _ _ from c2) hg
                | sl n1 es1 =>
                  cases hdd : oq.deep with
                  | true => rw [hdd] at c2; exact RefHdr.same (show RefHdr g q _ _ _ _ from c2) hg
                  | false => rw [hdd] at c2; exact SR.mono hk (show SR w _ _ _ from c2)
                | _ => exact VR.bare hk (show VR w _ noGh noAt _ _ from c2)
              rwa [show i - es0.length + es0.length = i by omega] at key
      · by_cases e3 : r' = r ∧ ∃ i j p, p' = (i, j) :: p ∧ es0.length ≤ i
        · obtain ⟨rfl, i, j, p, rfl, hi⟩ := e3
          rw [hnew i j p hi] at hh
          have hh' := (h.blk q _ es' d' n' hh).rename (fun b o c h1 h2 => (hk b o c h1 h2).1) (absGh_new g q r' es0.length (i - es0.length) j p) (fun b o' hb' => hpmq b o' _ j p hb') (fun i' j' e' v' _ _ _ => absGh_new g q r' es0.length (i - es0.length) j (p ++ [(i', j')]))
          rwa [show i - es0.length + es0.length = i by omega] at hh'
        · have h2 : r' = r → ∀ i j p, p' = (i, j) :: p → i < es0.length := fun e i j p hp => by
            rcases Nat.lt_or_ge i es0.length with h1 | h1
            · exact h1
            · exact absurd ⟨e, i, j, p, hp, h1⟩ e3
          rw [hold r' p' e1 h2 e2] at hh
          refine (h.blk r' p' es' d' n' hh).rename (fun b o c h1 h2 => (hk b o c h1 h2).1) (absGh_else g q r _ h2) (fun b o' hb' => hpm b o' r' p' hb' e1) (fun i' j' e' v' _ _ _ => absGh_else g q r _ (fun e i j p hp => ?_))
          cases p' with
          | nil => exact absurd ⟨e, rfl⟩ e2
          | cons x p1 =>
            obtain ⟨i1, j1⟩ := x
            have := h2 e i1 j1 p1 rfl
            simp only [List.cons_append, List.cons.injEq, Prod.mk.injEq] at hp
            omega
    fresh := fun r' hr' => by
      show look none ((r, some _) :: (q, none) :: s.ob) r' = none
      rw [look_cons, if_neg (fun e => by rw [e, h.fresh r' hr'] at ho; cases ho), look_cons]
      split
      · rfl
      · exact h.fresh r' hr'
    own := fun b o' hb0 => h.own b o' (hpmn b o' hb0)
    keep := h.keep
    low := fun b o' hb0 => h.low b o' (hpmn b o' hb0)
    ngnx := h.ngnx
    top := fun k hk0 => by
      have hk0 : k < s.ng := hk0
      obtain ⟨t1, t2⟩ := h.top k hk0
      obtain ⟨e1, e2, e3, e4, e5⟩ := absGh_else g q r es0.length (r' := k) (p' := []) (fun _ i j p hp => by cases hp)
      refine ⟨⟨e1.trans t1.1, e2.trans t1.2.1, e3.trans t1.2.2.1, e4.trans t1.2.2.2.1, e5.trans t1.2.2.2.2⟩, ?_⟩
      have : (s.absorb r q o (es0 ++ oq.es)).shape k = s.shape k := by
        unfold St.shape St.obj St.absorb
        dsimp only
        rw [look_cons, if_neg (by omega), look_cons, if_neg (by omega)]
      rw [this]; exact t2 }
end
end Ev
namespace Ev
open Go Go.RowKit
set_option linter.unusedVariables false
set_option linter.unusedSimpArgs false

theorem blt_iff {a b : Nat} : Nat.blt a b = true ↔ a < b := by rw [Nat.blt_eq]
def posOf (r : Nat) : List Nat → Nat → Option Nat
  | [], _ => none
  | x :: l, k => match Nat.beq x r with
    | true => some k
    | false => posOf r l (k + 1)
def invL (ng : Nat) (L : List Nat) (r : Nat) : Option Nat :=
  match Nat.blt r ng with
  | true => some r
  | false => posOf r L ng
def ren1 (inv : Nat → Option Nat) : V → V
  | .hdr r p => match inv r with
    | some k => .hdr k p
    | none => .dead
  | .part r p o l => match inv r with
    | some k => .part k p o l
    | none => .dead
  | .ptr r p i j => match inv r with
    | some k => .ptr k p i j
    | none => .dead
  | .sc x => .sc x
  | .sh n es => .sh n es
  | .shp cs => .shp cs
  | .fn f [] => .fn f []
  | _ => .dead
def ren2 (inv : Nat → Option Nat) : V → V
  | .agg vs => .agg (vs.map (ren1 inv))
  | .fn f (c :: cs) => .fn f ((c :: cs).map (ren1 inv))
  | v => ren1 inv v
def ren3 (inv : Nat → Option Nat) : V → V
  | .tup vs => .tup (vs.map (ren2 inv))
  | v => ren2 inv v
def roots3 : V → List Nat
  | .tup vs => vs.flatMap roots2
  | v => roots2 v
/-- The roots that are named, the given ones apart, each once. -/
def addR (ng : Nat) : List Nat → List Nat → List Nat
  | [], L => L
  | r :: l, L => match Nat.blt r ng with
    | true => addR ng l L
    | false => match posOf r L 0 with
      | some _ => addR ng l L
      | none => addR ng l (L ++ [r])
def rootsOf (s : St) : List Nat → List Nat → List Nat
  | [], L => L
  | t :: l, L => rootsOf s l (addR s.ng (roots3 (s.get t)) L)
def distinct (ng : Nat) : List Nat → Bool
  | [] => true
  | r :: l => match Nat.ble ng r with
    | true => match posOf r l 0 with
      | some _ => false
      | none => distinct ng l
    | false => false
def selL (s : St) : Nat → List Nat → List (Nat × Option Ob)
  | _, [] => []
  | k, x :: l => (k, s.obj x) :: selL s (k + 1) l
def selG (s : St) : Nat → List (Nat × Option Ob)
  | 0 => []
  | n + 1 => (n, s.obj n) :: selG s n
def selT (s : St) (inv : Nat → Option Nat) : List Nat → List (Nat × V)
  | [] => []
  | t :: l => (t, ren3 inv (s.get t)) :: selT s inv l
def St.sel (s : St) (keep L : List Nat) : St := ⟨selT s (invL s.ng L) keep, selL s s.ng L ++ selG s s.ng, s.ng + L.length, s.fz, s.ng⟩

theorem look_selT (s : St) (inv : Nat → Option Nat) : ∀ (l : List Nat) (t : Nat), look .dead (selT s inv l) t = .dead ∨ look .dead (selT s inv l) t = ren3 inv (s.get t)
  | [], t => .inl rfl
  | u :: l, t => by
    unfold selT
    rw [look_cons]
    by_cases h : u = t
    · subst h; rw [if_pos rfl]; exact .inr rfl
    · rw [if_neg h]; exact look_selT s inv l t
theorem look_selG (s : St) : ∀ (n r : Nat), look none (selG s n) r = if r < n then s.obj r else none
  | 0, r => rfl
  | n + 1, r => by
    unfold selG
    rw [look_cons, look_selG s n r]
    by_cases h : n = r
    · subst h; rw [if_pos rfl, if_pos (Nat.lt_succ_self _)]
    · rw [if_neg h]
      by_cases h' : r < n
      · rw [if_pos h', if_pos (by omega)]
      · rw [if_neg h', if_neg (by omega)]
theorem look_sel (s : St) (n : Nat) : ∀ (l : List Nat) (k r : Nat), n ≤ k → look none (selL s k l ++ selG s n) r = if k ≤ r then (match l[r - k]? with | some x => s.obj x | none => none) else if r < n then s.obj r else none
  | [], k, r, h => by
    show look none (selG s n) r = _
    rw [look_selG]
    by_cases h1 : k ≤ r
    · rw [if_pos h1, if_neg (by omega)]; simp
    · rw [if_neg h1]
  | x :: l, k, r, h => by
    show look none ((k, s.obj x) :: (selL s (k + 1) l ++ selG s n)) r = _
    rw [look_cons, look_sel s n l (k + 1) r (by omega)]
    by_cases h1 : k = r
    · subst h1; rw [if_pos rfl, if_pos (Nat.le_refl _), Nat.sub_self]; rfl
    · rw [if_neg h1]
      by_cases h2 : k ≤ r
      · rw [if_pos (by omega), if_pos h2, show r - k = (r - (k + 1)) + 1 by omega, List.getElem?_cons_succ]
      · rw [if_neg (by omega), if_neg h2]
theorem posOf_some {r : Nat} : ∀ {l : List Nat} {k m : Nat}, posOf r l k = some m → k ≤ m ∧ l[m - k]? = some r
  | [], k, m, h => by cases h
  | x :: l, k, m, h => by
    unfold posOf at h
    split at h
    · rename_i e
      obtain rfl := Option.some.inj h
      rw [Nat.sub_self, Nat.eq_of_beq_eq_true e]; exact ⟨Nat.le_refl _, rfl⟩
    · obtain ⟨h1, h2⟩ := posOf_some h
      exact ⟨by omega, by rw [show m - k = (m - (k + 1)) + 1 by omega, List.getElem?_cons_succ]; exact h2⟩
theorem posOf_shift {r : Nat} : ∀ {l : List Nat} {k : Nat}, posOf r l k = (posOf r l 0).map (· + k)
  | [], k => rfl
  | x :: l, k => by
    unfold posOf
    cases Nat.beq x r with
    | true => simp
    | false =>
      dsimp only
      rw [posOf_shift (k := k + 1), posOf_shift (k := 0 + 1)]
      cases posOf r l 0 with
      | none => rfl
      | some m => simp; omega
theorem distinct_pos {ng : Nat} : ∀ {l : List Nat}, distinct ng l = true → ∀ (i r : Nat), l[i]? = some r → ng ≤ r ∧ ∀ k, posOf r l k = some (k + i)
  | [], h, i, r, hi => by simp at hi
  | x :: l, h, i, r, hi => by
    unfold distinct at h
    split at h
    case h_2 => cases h
    rename_i h1
    split at h
    case h_1 => cases h
    rename_i h2
    cases i with
    | zero =>
      obtain rfl := Option.some.inj hi
      refine ⟨Nat.le_of_ble_eq_true h1, fun k => ?_⟩
      unfold posOf; rw [Nat.beq_refl]; rfl
    | succ i =>
      rw [List.getElem?_cons_succ] at hi
      obtain ⟨h3, h4⟩ := distinct_pos h i r hi
      refine ⟨h3, fun k => ?_⟩
      unfold posOf
      cases e : Nat.beq x r with
      | true =>
        rw [Nat.eq_of_beq_eq_true e, h4 0] at h2; cases h2
      | false => dsimp only; rw [h4 (k + 1)]; congr 1; omega

section
variable {β : Base} {s : St} {a : Act} {w : World} {g : Gh} {pm : Nat → Nat → Option (Nat × Path)} {C : Ctx}

theorem VR.ren1 {w : World} {ok ok' : Nat → Nat → Prop} {g g' : Gh} {at_ at' : Nat → Path → Option Nat} {inv : Nat → Option Nat} (hk : ∀ b o c, ok b o → w.cell? ⟨b, o, none⟩ = some c → ok' b o ∧ w.cell? ⟨b, o, none⟩ = some c)
    (ha : ∀ r k p n, inv r = some k → at_ r p = some n → at' k p = some n ∧ SameGh g g' r k p p) {v : V} {x : Value} (h : VR w ok g at_ v x) : VR w ok' g' at' (Ev.ren1 inv v) x := by
  cases h with
  | sc x => exact .sc _
  | sh n es c hh => exact .sh n es _ (hh.mono hk)
  | shp cs b o vals h1 h2 => exact .shp cs b o vals (fun j v hv => hk _ _ _ (h1 j v hv).1 (h1 j v hv).2) (fun j v hv => (h2 j v hv).mono hk)
  | fn f caps xs hl hx =>
    cases caps with
    | nil => exact .fn f [] xs hl (fun k v x hv => by simp at hv)
    | cons => exact .dead _
  | hdr r p n c hn hc =>
    simp only [Ev.ren1]
    cases e : inv r with
    | none => exact .dead _
    | some k =>
      obtain ⟨h1, h2⟩ := ha r k p n e hn
      exact .hdr k p n _ h1 (hc.same h2)
  | part r p o l n c hn hl hc =>
    simp only [Ev.ren1]
    cases e : inv r with
    | none => exact .dead _
    | some k =>
      obtain ⟨h1, h2⟩ := ha r k p n e hn
      exact .part k p o l n _ h1 hl (hc.same h2)
  | ptr r p i j n hn hl =>
    simp only [Ev.ren1]
    cases e : inv r with
    | none => exact .dead _
    | some k =>
      obtain ⟨h1, e1, e2, e3, e4, e5⟩ := ha r k p n e hn
      have := VR.ptr (w := w) (ok := ok') (g := g') (at_ := at') k p i j n h1 (e5.trans hl)
      rw [e1, e2, e3] at this; exact this
  | _ => exact .dead _
theorem mapVR {w w' : World} {ok ok' : Nat → Nat → Prop} {g g' : Gh} {at_ at' : Nat → Path → Option Nat} {f : V → V} (hf : ∀ v x, VR w ok g at_ v x → VR w' ok' g' at' (f v) x) {vs : List V} {xs : List Value} (hx : ∀ (k : Nat) (v : V) (x : Value), vs[k]? = some v → xs[k]? = some x → VR w ok g at_ v x) :
    ∀ (k : Nat) (v : V) (x : Value), (vs.map f)[k]? = some v → xs[k]? = some x → VR w' ok' g' at' v x := fun k v x hv hxx => by
  rw [List.getElem?_map] at hv
  cases e : vs[k]? with
  | none => rw [e] at hv; cases hv
  | some u =>
    rw [e] at hv
    obtain rfl := Option.some.inj hv
    exact hf u x (hx k u x e hxx)
theorem VR.ren3 {w : World} {ok ok' : Nat → Nat → Prop} {g g' : Gh} {at_ at' : Nat → Path → Option Nat} {inv : Nat → Option Nat} (hk : ∀ b o c, ok b o → w.cell? ⟨b, o, none⟩ = some c → ok' b o ∧ w.cell? ⟨b, o, none⟩ = some c)
    (ha : ∀ r k p n, inv r = some k → at_ r p = some n → at' k p = some n ∧ SameGh g g' r k p p) {v : V} {x : Value} (h : VR w ok g at_ v x) : VR w ok' g' at' (Ev.ren3 inv v) x := by
  have h1 : ∀ v x, VR w ok g at_ v x → VR w ok' g' at' (Ev.ren1 inv v) x := fun v x h => h.ren1 hk ha
  have h2 : ∀ v x, VR w ok g at_ v x → VR w ok' g' at' (Ev.ren2 inv v) x := fun v x hv => by
    cases hv with
    | agg vs xs hl hx => exact .agg _ xs (by rw [List.length_map]; exact hl) (mapVR h1 hx)
    | fn f caps xs hl hx =>
      cases caps with
      | nil => exact h1 _ _ (.fn f [] xs hl hx)
      | cons c cs => exact .fn f _ xs (by rw [List.length_map]; exact hl) (mapVR h1 hx)
    | sc x => exact h1 _ _ (.sc _)
    | sh n es c hh => exact h1 _ _ (.sh n es _ hh)
    | shp cs b o vals k1 k2 => exact h1 _ _ (.shp cs b o vals k1 k2)
    | hdr r p n c hn hc => exact h1 _ _ (.hdr r p n _ hn hc)
    | part r p o len n c hn hl hc => exact h1 _ _ (.part r p o len n _ hn hl hc)
    | ptr r p i j n hn hl => exact h1 _ _ (.ptr r p i j n hn hl)
    | bxr vs b o xs k1 k2 => exact h1 _ _ (.bxr vs b o xs k1 k2)
    | tup vs xs hl hx => exact .dead _
    | dead c => exact .dead _
  cases h with
  | tup vs xs hl hx => exact .tup _ xs (by rw [List.length_map]; exact hl) (mapVR h2 hx)
  | agg vs xs hl hx => exact h2 _ _ (.agg vs xs hl hx)
  | fn f caps xs hl hx => exact h2 _ _ (.fn f caps xs hl hx)
  | sc x => exact h2 _ _ (.sc _)
  | sh n es c hh => exact h2 _ _ (.sh n es _ hh)
  | shp cs b o vals k1 k2 => exact h2 _ _ (.shp cs b o vals k1 k2)
  | hdr r p n c hn hc => exact h2 _ _ (.hdr r p n _ hn hc)
  | part r p o len n c hn hl hc => exact h2 _ _ (.part r p o len n _ hn hl hc)
  | ptr r p i j n hn hl => exact h2 _ _ (.ptr r p i j n hn hl)
  | bxr vs b o xs k1 k2 => exact h2 _ _ (.bxr vs b o xs k1 k2)
  | dead c => exact .dead _

def selR (ng : Nat) (L : List Nat) (k : Nat) : Nat := if k < ng then k else (L[k - ng]?).getD k
def selGh (g : Gh) (ng : Nat) (L : List Nat) : Gh :=
  ⟨fun k p => g.blk (selR ng L k) p, fun k p => g.off (selR ng L k) p, fun k p => g.sz (selR ng L k) p, fun k p => g.cap (selR ng L k) p, fun k p => g.nl (selR ng L k) p⟩
def selPm (pm : Nat → Nat → Option (Nat × Path)) (ng : Nat) (L : List Nat) : Nat → Nat → Option (Nat × Path) := fun b o =>
  match pm b o with
  | some (r, p) => (invL ng L r).map fun k => (k, p)
  | none => none

theorem R.sel (h : R β s a w g pm) {keep L : List Nat} (hL : distinct s.ng L = true) : R β (s.sel keep L) a w (selGh g s.ng L) (selPm pm s.ng L) := by
  have hobj : ∀ k, (s.sel keep L).obj k = if s.ng ≤ k then (match L[k - s.ng]? with | some x => s.obj x | none => none) else s.obj k := fun k => by
    show look none (selL s s.ng L ++ selG s s.ng) k = _
    rw [look_sel s s.ng L s.ng k (Nat.le_refl _)]
    by_cases h1 : s.ng ≤ k
    · rw [if_pos h1, if_pos h1]
    · rw [if_neg h1, if_neg h1, if_pos (by omega)]
  have hobj2 : ∀ k o, (s.sel keep L).obj k = some o → s.obj (selR s.ng L k) = some o ∧ invL s.ng L (selR s.ng L k) = some k := fun k o hk => by
    rw [hobj] at hk
    unfold selR
    by_cases h1 : s.ng ≤ k
    · rw [if_pos h1] at hk
      rw [if_neg (by omega)]
      cases e : L[k - s.ng]? with
      | none => rw [e] at hk; cases hk
      | some x =>
        rw [e] at hk
        obtain ⟨h2, h3⟩ := distinct_pos hL _ x e
        refine ⟨hk, ?_⟩
        unfold invL
        have : Nat.blt x s.ng = false := by
          cases e1 : Nat.blt x s.ng with
          | false => rfl
          | true => have := blt_iff.1 e1; omega
        simp only [Option.getD_some]
        rw [this]; dsimp only; rw [h3]; congr 1; omega
    · rw [if_neg h1] at hk
      rw [if_pos (by omega)]
      refine ⟨hk, ?_⟩
      unfold invL
      rw [blt_iff.2 (by omega)]
  have hinv : ∀ r k, invL s.ng L r = some k → selR s.ng L k = r ∧ ∀ p, (s.sel keep L).at k p = s.at r p := fun r k hk => by
    have key : selR s.ng L k = r ∧ (s.sel keep L).obj k = s.obj r := by
      unfold invL at hk
      split at hk
      · rename_i e
        obtain rfl := Option.some.inj hk
        have := blt_iff.1 e
        refine ⟨by unfold selR; rw [if_pos this], by rw [hobj, if_neg (by omega)]⟩
      · obtain ⟨h1, h2⟩ := posOf_some hk
        refine ⟨by unfold selR; rw [if_neg (by omega), h2]; rfl, by rw [hobj, if_pos h1, h2]⟩
    exact ⟨key.1, fun p => by unfold St.at; rw [key.2]⟩
  have hgh : ∀ k p, SameGh g (selGh g s.ng L) (selR s.ng L k) k p p := fun k p => ⟨rfl, rfl, rfl, rfl, rfl⟩
  have hk : ∀ b o c, okc β pm b o → w.cell? ⟨b, o, none⟩ = some c → okc β (selPm pm s.ng L) b o ∧ w.cell? ⟨b, o, none⟩ = some c := fun b o c h1 h2 => ⟨⟨by unfold selPm; rw [h1.1], h1.2⟩, h2⟩
  have hpmn : ∀ b o, selPm pm s.ng L b o ≠ none → pm b o ≠ none := fun b o h1 h2 => h1 (by unfold selPm; rw [h2])
  exact {
    defers := h.defers
    fsz := h.fsz
    tm := fun t => by
      show VR w _ _ _ (look .dead (selT s (invL s.ng L) keep) t) _
      rcases look_selT s (invL s.ng L) keep t with e | e
      · rw [e]; exact .dead _
      · rw [e]
        refine (h.tm t).ren3 hk (fun r k p n hr hn => ?_)
        obtain ⟨h1, h2⟩ := hinv r k hr
        refine ⟨by unfold St.len at hn ⊢; rw [h2]; exact hn, ?_⟩
        have := hgh k p
        rwa [h1] at this
    blk := fun k p es d n hh => by
      have ho : ∃ o, (s.sel keep L).obj k = some o := by
        unfold St.at at hh
        cases e : (s.sel keep L).obj k with
        | none => rw [e] at hh; cases hh
        | some o => exact ⟨o, rfl⟩
      obtain ⟨o, ho⟩ := ho
      obtain ⟨h1, h2⟩ := hobj2 k o ho
      rw [(hinv _ k h2).2] at hh
      refine (h.blk _ p es d n hh).rename (fun b o c h1 h2 => (hk b o c h1 h2).1) (hgh k p) (fun b o' hb => ?_) (fun _ _ _ _ _ _ _ => hgh k _)
      unfold selPm
      rw [hb]; dsimp only; rw [h2]; rfl
    fresh := fun k hk0 => by
      have hk0 : s.ng + L.length ≤ k := hk0
      rw [hobj, if_pos (by omega), List.getElem?_eq_none (by omega)]
    own := fun b o hb => h.own b o (hpmn b o hb)
    keep := h.keep
    low := fun b o hb => h.low b o (hpmn b o hb)
    ngnx := Nat.le_add_right _ _
    top := fun k hk0 => by
      have hk0 : k < s.ng := hk0
      obtain ⟨t1, t2⟩ := h.top k hk0
      have e : selR s.ng L k = k := by unfold selR; rw [if_pos hk0]
      refine ⟨?_, ?_⟩
      · have := hgh k []
        rw [e] at this
        obtain ⟨e1, e2, e3, e4, e5⟩ := this
        exact ⟨e1.trans t1.1, e2.trans t1.2.1, e3.trans t1.2.2.1, e4.trans t1.2.2.2.1, e5.trans t1.2.2.2.2⟩
      · unfold St.shape
        rw [hobj, if_neg (by omega)]; exact t2 }
end
end Ev
namespace Ev
open Go Go.RowKit
set_option linter.unusedVariables false
set_option linter.unusedSimpArgs false

/-- A result's own becomes objects, from number k on. -/
def open1 (k : Nat) : V → V × List (Nat × Option Ob) × Nat
  | .own d n es => (.hdr k [], [(k, some ⟨es, d, n, false⟩)], k + 1)
  | .obx row => (.ptr k [] 0 0, [(k, some ⟨[row], true, row.length, true⟩)], k + 1)
  | v => (v, [], k)
def openL (f : Nat → V → V × List (Nat × Option Ob) × Nat) : Nat → List V → List V × List (Nat × Option Ob) × Nat
  | k, [] => ([], [], k)
  | k, v :: vs => match f k v with
    | (v', l, k') => match openL f k' vs with
      | (vs', l', k'') => (v' :: vs', l ++ l', k'')
def open2 (k : Nat) : V → V × List (Nat × Option Ob) × Nat
  | .agg vs => match openL open1 k vs with
    | (vs', l, k') => (.agg vs', l, k')
  | v => open1 k v
def open3 (k : Nat) : List V → V × List (Nat × Option Ob) × Nat
  | [v] => open2 k v
  | vs => match openL open2 k vs with
    | (vs', l, k') => (.tup vs', l, k')

/-- The state that has these objects alone. -/
def stO (l : List (Nat × Option Ob)) : St := ⟨[], l, 0, 0, 0⟩
def obsO : Nat → List Ob → List (Nat × Option Ob)
  | _, [] => []
  | k, o :: l => (k, some o) :: obsO (k + 1) l
def Ob.shape (o : Ob) : Bool × Bool × Nat × Nat := (o.deep, o.bx, o.sz, o.es.length)

/-- What is so behind a call. -/
structure After (w w' : World) (ok : Nat → Nat → Prop) (g : Gh) (pm : Nat → Nat → Option (Nat × Path)) (obs obs' : List Ob) (n0 : Nat) (rs : List V) (x : Value) (g' : Gh) (pm' : Nat → Nat → Option (Nat × Path)) : Prop where
  keep : Keeps pm w w'
  len : obs'.length = obs.length
  top : ∀ (k : Nat) (o o' : Ob), obs[k]? = some o → obs'[k]? = some o' → SameGh g g' k k [] [] ∧ o'.shape = o.shape
  own : ∀ b o, pm' b o ≠ none → (pm b o ≠ none ∨ w.heap.size ≤ b) ∧ b < w'.heap.size
  blk : ∀ r p es d n, (stO ((open3 n0 rs).2.1 ++ obsO 0 obs')).at r p = some (es, d, n) → BR w' (okc ⟨w, ok, pm, g, fun _ => none⟩ pm') g' pm' r p es d n
  val : VR w' (okc ⟨w, ok, pm, g, fun _ => none⟩ pm') g' (stO (open3 n0 rs).2.1).len (open3 n0 rs).1 x
  rng : ∀ r, (stO (open3 n0 rs).2.1).obj r ≠ none → n0 ≤ r ∧ r < (open3 n0 rs).2.2
  le : n0 ≤ (open3 n0 rs).2.2

/-- THE CONTRACT: called with what these values tell, over these objects, the function returns what Q tells. -/
structure Fn (P : Program) (gl : List (Addr × Option Value)) (f : Nat) (args : List V) (obs : List Ob) (Q : List V → List Ob → Prop) : Prop where
  run : ∀ (w : World) (ok : Nat → Nat → Prop) (g : Gh) (pm : Nat → Nat → Option (Nat × Path)) (xs : List Value), xs.length = args.length →
    (∀ (k : Nat) (v : V) (x : Value), args[k]? = some v → xs[k]? = some x → VR w ok g (stO (obsO 0 obs)).len v x) →
    (∀ r p es d n, (stO (obsO 0 obs)).at r p = some (es, d, n) → BR w ok g pm r p es d n) →
    (∀ b o, pm b o ≠ none → b < w.heap.size) → (∀ b o, ok b o → pm b o = none) →
    (∀ a v, (a, v) ∈ gl → ∃ b o, a = ⟨b, o, none⟩ ∧ b < w.heap.size ∧ w.cell? ⟨b, o, none⟩ = v ∧ pm b o = none) →
    Calls P f xs.toArray w (fun e w' => ∃ x rs obs', e = .returned x ∧ Q rs obs' ∧ ∀ n0, obs.length ≤ n0 → ∃ g' pm', After w w' ok g pm obs obs' n0 rs x g' pm')

theorem Fn.mono {P : Program} {gl : List (Addr × Option Value)} {f : Nat} {args : List V} {obs : List Ob} {Q Q' : List V → List Ob → Prop} (h : Fn P gl f args obs Q) (hq : ∀ rs os, Q rs os → Q' rs os) : Fn P gl f args obs Q' :=
  ⟨fun w ok g pm xs h1 h2 h3 h4 h5 h6 => (h.run w ok g pm xs h1 h2 h3 h4 h5 h6).mono fun e w' ⟨x, rs, obs', e1, e2, e3⟩ => ⟨x, rs, obs', e1, hq _ _ e2, e3⟩⟩

theorem look_append {α : Type} (z : α) (l m : List (Nat × α)) (t : Nat) (h : ∀ x ∈ l, x.1 ≠ t) : look z (l ++ m) t = look z m t := by
  induction l with
  | nil => rfl
  | cons x l ih =>
    obtain ⟨u, v⟩ := x
    rw [List.cons_append, look_cons, if_neg (h (u, v) (List.mem_cons_self ..))]
    exact ih (fun x hx => h x (List.mem_cons_of_mem _ hx))
theorem look_append_some {α : Type} (l m : List (Nat × Option α)) (t : Nat) (h : look none l t ≠ none) : look none (l ++ m) t = look none l t := by
  induction l with
  | nil => exact absurd rfl h
  | cons x l ih =>
    obtain ⟨u, v⟩ := x
    rw [List.cons_append, look_cons, look_cons]
    rw [look_cons] at h
    by_cases e : u = t
    · rw [if_pos e, if_pos e]
    · rw [if_neg e, if_neg e]; rw [if_neg e] at h; exact ih h
theorem look_append_none {α : Type} (l m : List (Nat × Option α)) (t : Nat) (hl : ∀ x ∈ l, x.2 ≠ none) (h : look none l t = none) : look none (l ++ m) t = look none m t := by
  induction l with
  | nil => rfl
  | cons x l ih =>
    obtain ⟨u, v⟩ := x
    rw [List.cons_append, look_cons]
    rw [look_cons] at h
    by_cases e : u = t
    · rw [if_pos e] at h; exact absurd h (hl (u, v) (List.mem_cons_self ..))
    · rw [if_neg e]; rw [if_neg e] at h; exact ih (fun x hx => hl x (List.mem_cons_of_mem _ hx)) h
theorem open1_some (k : Nat) (v : V) : ∀ x ∈ (open1 k v).2.1, x.2 ≠ none := by
  intro x hx
  cases v <;> first | (obtain rfl := List.mem_singleton.1 hx; simp) | cases hx
theorem openL_some {f : Nat → V → V × List (Nat × Option Ob) × Nat} (hf : ∀ k v, ∀ x ∈ (f k v).2.1, x.2 ≠ none) : ∀ (vs : List V) (k : Nat), ∀ x ∈ (openL f k vs).2.1, x.2 ≠ none
  | [], k, x, hx => by cases hx
  | v :: vs, k, x, hx => by
    unfold openL at hx
    dsimp only at hx
    rcases List.mem_append.1 hx with h | h
    · exact hf k v x h
    · exact openL_some hf vs _ x h
theorem open2_some (k : Nat) (v : V) : ∀ x ∈ (open2 k v).2.1, x.2 ≠ none := by
  intro x hx
  cases v <;> first | exact open1_some k _ x hx | exact openL_some open1_some _ _ x hx
theorem open3_some (k : Nat) (rs : List V) : ∀ x ∈ (open3 k rs).2.1, x.2 ≠ none := by
  intro x hx
  unfold open3 at hx
  split at hx
  · exact open2_some k _ x hx
  · exact openL_some open2_some _ _ x hx
theorem look_obsO : ∀ (l : List Ob) (k r : Nat), look none (obsO k l) r = if k ≤ r then l[r - k]? else none
  | [], k, r => by simp [obsO, look]
  | o :: l, k, r => by
    show look none ((k, some o) :: obsO (k + 1) l) r = _
    rw [look_cons, look_obsO l (k + 1) r]
    by_cases h1 : k = r
    · subst h1; rw [if_pos rfl, if_pos (Nat.le_refl _), Nat.sub_self]; rfl
    · rw [if_neg h1]
      by_cases h2 : k ≤ r
      · rw [if_pos (by omega), if_pos h2, show r - k = (r - (k + 1)) + 1 by omega, List.getElem?_cons_succ]
      · rw [if_neg (by omega), if_neg h2]

/-- What names a place beneath a given root. -/
def hitG (G : List Nat) : Nat → Path → Bool := fun r p => match p with
  | [] => false
  | _ => match posOf r G 0 with
    | some _ => true
    | none => false
def givL : List Nat → List Ob → List (Nat × Option Ob)
  | r :: G, o :: l => (r, some o) :: givL G l
  | _, _ => []
def St.called (s : St) (G : List Nat) (obs' : List Ob) (l : List (Nat × Option Ob)) (nx : Nat) : St :=
  { s with tm := s.tm.map fun x => (x.1, kill (hitG G) x.2), ob := givL G obs' ++ (l ++ s.ob), nx := nx }
def givGh (g : Gh) (G : List Nat) : Gh :=
  ⟨fun k p => g.blk ((G[k]?).getD 0) p, fun k p => g.off ((G[k]?).getD 0) p, fun k p => g.sz ((G[k]?).getD 0) p, fun k p => g.cap ((G[k]?).getD 0) p, fun k p => g.nl ((G[k]?).getD 0) p⟩
def givPm (pm : Nat → Nat → Option (Nat × Path)) (G : List Nat) : Nat → Nat → Option (Nat × Path) := fun b o =>
  match pm b o with
  | some (r, p) => (posOf r G 0).map fun k => (k, p)
  | none => none
/-- Where a root behind the call stood in the call. -/
def whr (G : List Nat) (nx r : Nat) : Nat × Bool :=
  match posOf r G 0 with
  | some k => (k, true)
  | none => if r < nx then (r, false) else (r, true)
def calGh (g g' : Gh) (G : List Nat) (nx : Nat) : Gh :=
  ⟨fun r p => if (whr G nx r).2 = true then g'.blk (whr G nx r).1 p else g.blk (whr G nx r).1 p, fun r p => if (whr G nx r).2 = true then g'.off (whr G nx r).1 p else g.off (whr G nx r).1 p, fun r p => if (whr G nx r).2 = true then g'.sz (whr G nx r).1 p else g.sz (whr G nx r).1 p, fun r p => if (whr G nx r).2 = true then g'.cap (whr G nx r).1 p else g.cap (whr G nx r).1 p, fun r p => if (whr G nx r).2 = true then g'.nl (whr G nx r).1 p else g.nl (whr G nx r).1 p⟩
def calPm (pm pm' : Nat → Nat → Option (Nat × Path)) (G : List Nat) : Nat → Nat → Option (Nat × Path) := fun b o =>
  match pm' b o with
  | some (k, p) => some ((G[k]?).getD k, p)
  | none => match pm b o with
    | some (r, p) => match posOf r G 0 with
      | some _ => none
      | none => some (r, p)
    | none => none
/-- What is lent: one's own that is read. -/
def okLd (β : Base) (pm : Nat → Nat → Option (Nat × Path)) (Ld : List Nat) : Nat → Nat → Prop := fun b o => okc β pm b o ∨ ∃ r p, pm b o = some (r, p) ∧ r ∈ Ld

theorem posOf_none_iff {r : Nat} : ∀ {l : List Nat} {k : Nat}, posOf r l k = none ↔ r ∉ l
  | [], k => by simp [posOf]
  | x :: l, k => by
    unfold posOf
    cases e : Nat.beq x r with
    | true => rw [Nat.eq_of_beq_eq_true e]; simp
    | false =>
      dsimp only
      rw [posOf_none_iff]
      have : x ≠ r := fun e' => by rw [e', Nat.beq_refl] at e; cases e
      simp [Ne.symm this]
theorem look_givL {G : List Nat} : ∀ {obs : List Ob} (r : Nat), obs.length = G.length → distinct 0 G = true → look none (givL G obs) r = (match posOf r G 0 with | some k => obs[k]? | none => none) := by
  induction G with
  | nil => intro obs r h1 h2; cases obs <;> rfl
  | cons x G ih =>
    intro obs r h1 h2
    cases obs with
    | nil => cases h1
    | cons o obs =>
      unfold distinct at h2
      split at h2
      case h_2 => cases h2
      split at h2
      case h_1 => cases h2
      show look none ((x, some o) :: givL G obs) r = _
      have hp : posOf r (x :: G) 0 = (match Nat.beq x r with | true => some 0 | false => posOf r G (0 + 1)) := rfl
      rw [look_cons, ih r (by simpa using h1) h2, hp]
      by_cases e : x = r
      · subst e; rw [if_pos rfl, Nat.beq_refl]; rfl
      · rw [if_neg e]
        have : Nat.beq x r = false := by
          cases e' : Nat.beq x r with
          | false => rfl
          | true => exact absurd (Nat.eq_of_beq_eq_true e') e
        rw [this]; dsimp only
        rw [posOf_shift (k := 0 + 1)]
        cases posOf r G 0 with
        | none => rfl
        | some k => simp
theorem givL_some : ∀ (G : List Nat) (obs : List Ob), ∀ x ∈ givL G obs, x.2 ≠ none
  | [], _, x, hx => by cases hx
  | _ :: _, [], x, hx => by cases hx
  | r :: G, o :: l, x, hx => by
    rcases List.mem_cons.1 hx with rfl | hx
    · simp
    · exact givL_some G l x hx
end Ev
namespace Ev
open Go Go.RowKit
set_option linter.unusedVariables false
set_option linter.unusedSimpArgs false

/-- A tree that names nothing that is only read. -/
inductive Cl : Bool → V → Prop
  | sc (d : Bool) (x : Value) : Cl d (.sc x)
  | dead (d : Bool) : Cl d .dead
  | own (d d' : Bool) (n : Nat) (es : List (List V)) (h : ∀ (i j : Nat) (e : List V) (v : V), es[i]? = some e → e[j]? = some v → Cl d' v) : Cl d (.own d' n es)
  | sl (n : Nat) (es : List (List V)) (h : ∀ (i j : Nat) (e : List V) (v : V), es[i]? = some e → e[j]? = some v → Cl true v) : Cl true (.sl n es)
  | agg (d : Bool) (vs : List V) (h : ∀ (k : Nat) (v : V), vs[k]? = some v → Cl d v) : Cl d (.agg vs)
def ClEs (d : Bool) (es : List (List V)) : Prop := ∀ (i j : Nat) (e : List V) (v : V), es[i]? = some e → e[j]? = some v → Cl d v
theorem ClEs.sub {p : Path} : ∀ {d : Bool} {n : Nat} {es es' : List (List V)} {d' : Bool} {n' : Nat}, ClEs d es → Ev.sub d n es p = some (es', d', n') → ClEs d' es' := by
  induction p with
  | nil =>
    intro d n es es' d' n' h hs
    simp only [Ev.sub, Option.some.injEq, Prod.mk.injEq] at hs
    obtain ⟨rfl, rfl, rfl⟩ := hs; exact h
  | cons x p ih =>
    intro d n es es' d' n' h hs
    obtain ⟨i, j⟩ := x
    unfold Ev.sub at hs
    split at hs
    case h_2 => cases hs
    rename_i _ c hc
    split at hs
    · rename_i d1 n1 e1 hv
      cases h i j c _ hc hv with
      | own _ _ _ _ hh => exact ih hh hs
    · rename_i n1 e1 hv
      split at hs
      case h_2 => cases hs
      cases h i j c _ hc hv with
      | sl _ _ hh => exact ih hh hs
    · cases hs
theorem CR.closed {w : World} {ok ok' : Nat → Nat → Prop} {g : Gh} {r : Nat} {p : Path} {d : Bool} {i j : Nat} {v : V} {c : Value} (hc : Cl d v) (h : CR w ok g r p d i j v c) : CR w ok' g r p d i j v c := by
  cases hc with
  | sc d x => obtain rfl := VR.sc_inv (show VR w ok noGh noAt _ _ from h); exact VR.sc _
  | dead d => exact VR.dead _
  | own d d' n es hh => exact h
  | sl n es hh => exact h
  | agg d vs hh =>
    have key : ∀ (vs : List V) (c : Value), (∀ (k : Nat) (v : V), vs[k]? = some v → Cl d v) → VR w ok noGh noAt (.agg vs) c → VR w ok' noGh noAt (.agg vs) c := by
      intro vs c hh h
      generalize hv : V.agg vs = v at h
      have : ∀ v x, VR w ok noGh noAt v x → Cl d v → VR w ok' noGh noAt v x := by
        intro v x hv
        induction hv with
        | sc x => intro _; exact .sc x
        | dead c => intro _; exact .dead c
        | agg vs xs hl hx ih =>
          intro hcl
          cases hcl with
          | agg _ _ hh => exact .agg vs xs hl (fun k v x hv hxx => ih k v x hv hxx (hh k v hv))
        | _ => intro hcl; cases hcl
      subst hv
      exact this _ _ h (.agg d vs hh)
    exact key vs c hh h
theorem BR.closed {w : World} {ok ok' : Nat → Nat → Prop} {g : Gh} {pm : Nat → Nat → Option (Nat × Path)} {r : Nat} {p : Path} {es : List (List V)} {d : Bool} {n : Nat} (hc : ClEs d es) (h : BR w ok g pm r p es d n) : BR w ok' g pm r p es d n :=
  ⟨h.siz, h.nil, h.len, h.row, h.mine, fun i j e v he hv => let ⟨c, c1, c2⟩ := h.cell i j e v he hv; ⟨c, c1, c2.closed (hc i j e v he hv)⟩⟩
/-- A value that names nothing that is only read. -/
inductive NS : V → Prop
  | sc (x : Value) : NS (.sc x)
  | hdr (r : Nat) (p : Path) : NS (.hdr r p)
  | dead : NS .dead
  | agg (vs : List V) (h : ∀ (k : Nat) (v : V), vs[k]? = some v → NS v) : NS (.agg vs)
  | tup (vs : List V) (h : ∀ (k : Nat) (v : V), vs[k]? = some v → NS v) : NS (.tup vs)
theorem VR.ns {w : World} {ok ok' : Nat → Nat → Prop} {g : Gh} {at_ : Nat → Path → Option Nat} {v : V} {x : Value} (h : VR w ok g at_ v x) (hn : NS v) : VR w ok' g at_ v x := by
  induction h with
  | sc x => exact .sc x
  | hdr r p n c ha hc => exact .hdr r p n c ha hc
  | dead c => exact .dead c
  | agg vs xs hl hx ih =>
    cases hn with
    | agg _ hh => exact .agg vs xs hl (fun k v x hv hxx => ih k v x hv hxx (hh k v hv))
  | tup vs xs hl hx ih =>
    cases hn with
    | tup _ hh => exact .tup vs xs hl (fun k v x hv hxx => ih k v x hv hxx (hh k v hv))
  | _ => cases hn
theorem open1_cl {d : Bool} {k : Nat} {u : V} (h : Cl d u) (hag : ∀ vs, u ≠ .agg vs) (hsl : ∀ n es, u ≠ .sl n es) : NS (open1 k u).1 ∧ ∀ r o, (r, some o) ∈ (open1 k u).2.1 → ClEs o.deep o.es := by
  cases h with
  | sc d x => exact ⟨.sc x, fun r o h => by cases h⟩
  | dead d => exact ⟨.dead, fun r o h => by cases h⟩
  | own d d' n es hh => exact ⟨.hdr _ _, fun r o h => by
      obtain h := List.mem_singleton.1 h
      injection h with h1 h2
      injection h2 with h2
      subst h2; exact hh⟩
  | sl n es hh => exact absurd rfl (hsl n es)
  | agg d vs hh => exact absurd rfl (hag vs)
/-- Results that are closed. -/
def ClR (rs : List V) : Prop := ∀ v ∈ rs, Cl false v ∧ ∀ vs, v = .agg vs → ∀ u ∈ vs, ∀ us, u ≠ .agg us
theorem openL1_cl : ∀ (vs : List V) (k : Nat), (∀ u ∈ vs, Cl false u) → (∀ u ∈ vs, ∀ us, u ≠ .agg us) → (∀ v ∈ (openL open1 k vs).1, NS v) ∧ ∀ r o, (r, some o) ∈ (openL open1 k vs).2.1 → ClEs o.deep o.es
  | [], k, _, _ => ⟨fun v hv => (by cases hv), fun r o h => (by cases h)⟩
  | v :: vs, k, h1, h2 => by
    have hv := h1 v (List.mem_cons_self ..)
    obtain ⟨a1, a2⟩ := open1_cl (k := k) hv (h2 v (List.mem_cons_self ..)) (fun n es e => by rw [e] at hv; cases hv)
    obtain ⟨b1, b2⟩ := openL1_cl vs (open1 k v).2.2 (fun u hu => h1 u (List.mem_cons_of_mem _ hu)) (fun u hu => h2 u (List.mem_cons_of_mem _ hu))
    refine ⟨fun u hu => ?_, fun r o hu => ?_⟩
    · rcases List.mem_cons.1 (show u ∈ (open1 k v).1 :: (openL open1 (open1 k v).2.2 vs).1 from hu) with rfl | hu
      · exact a1
      · exact b1 u hu
    · rcases List.mem_append.1 (show (r, some o) ∈ (open1 k v).2.1 ++ (openL open1 (open1 k v).2.2 vs).2.1 from hu) with hu | hu
      · exact a2 r o hu
      · exact b2 r o hu
theorem open2_cl {k : Nat} {v : V} (h : Cl false v) (hag : ∀ vs, v = .agg vs → ∀ u ∈ vs, ∀ us, u ≠ .agg us) : NS (open2 k v).1 ∧ ∀ r o, (r, some o) ∈ (open2 k v).2.1 → ClEs o.deep o.es := by
  cases h with
  | agg d vs hh =>
    obtain ⟨a1, a2⟩ := openL1_cl vs k (fun u hu => by obtain ⟨i, hi⟩ := List.getElem?_of_mem hu; exact hh i u hi) (hag vs rfl)
    exact ⟨.agg _ (fun i u hu => a1 u (List.mem_of_getElem? hu)), a2⟩
  | sc d x => exact open1_cl (.sc false x) (fun _ h => by cases h) (fun _ _ h => by cases h)
  | dead d => exact open1_cl (.dead false) (fun _ h => by cases h) (fun _ _ h => by cases h)
  | own d d' n es hh => exact open1_cl (.own false d' n es hh) (fun _ h => by cases h) (fun _ _ h => by cases h)
theorem openL2_cl : ∀ (vs : List V) (k : Nat), ClR vs → (∀ v ∈ (openL open2 k vs).1, NS v) ∧ ∀ r o, (r, some o) ∈ (openL open2 k vs).2.1 → ClEs o.deep o.es
  | [], k, _ => ⟨fun v hv => (by cases hv), fun r o h => (by cases h)⟩
  | v :: vs, k, h1 => by
    obtain ⟨h2, h3⟩ := h1 v (List.mem_cons_self ..)
    obtain ⟨a1, a2⟩ := open2_cl (k := k) h2 h3
    obtain ⟨b1, b2⟩ := openL2_cl vs (open2 k v).2.2 (fun u hu => h1 u (List.mem_cons_of_mem _ hu))
    refine ⟨fun u hu => ?_, fun r o hu => ?_⟩
    · rcases List.mem_cons.1 (show u ∈ (open2 k v).1 :: (openL open2 (open2 k v).2.2 vs).1 from hu) with rfl | hu
      · exact a1
      · exact b1 u hu
    · rcases List.mem_append.1 (show (r, some o) ∈ (open2 k v).2.1 ++ (openL open2 (open2 k v).2.2 vs).2.1 from hu) with hu | hu
      · exact a2 r o hu
      · exact b2 r o hu
theorem open3_cl {k : Nat} {rs : List V} (h : ClR rs) : NS (open3 k rs).1 ∧ ∀ r o, (r, some o) ∈ (open3 k rs).2.1 → ClEs o.deep o.es := by
  unfold open3
  split
  · rename_i v
    obtain ⟨h2, h3⟩ := h v (List.mem_cons_self ..)
    exact open2_cl h2 h3
  · obtain ⟨a1, a2⟩ := openL2_cl rs k h
    exact ⟨.tup _ (fun i u hu => a1 u (List.mem_of_getElem? hu)), a2⟩
theorem look_mem {α : Type} {l : List (Nat × Option α)} {r : Nat} {o : α} (h : look none l r = some o) : (r, some o) ∈ l := by
  induction l with
  | nil => cases h
  | cons x l ih =>
    obtain ⟨u, v⟩ := x
    rw [look_cons] at h
    by_cases e : u = r
    · rw [if_pos e] at h; subst e; rw [h]; exact List.mem_cons_self ..
    · rw [if_neg e] at h; exact List.mem_cons_of_mem _ (ih h)
theorem calGh_new {g g' : Gh} {G : List Nat} {nx r k : Nat} (h : whr G nx r = (k, true)) (p : Path) : SameGh g' (calGh g g' G nx) k r p p := by
  unfold SameGh calGh; dsimp only; rw [h]; exact ⟨rfl, rfl, rfl, rfl, rfl⟩
theorem calGh_old {g g' : Gh} {G : List Nat} {nx r k : Nat} (h : whr G nx r = (k, false)) (p : Path) : SameGh g (calGh g g' G nx) k r p p := by
  unfold SameGh calGh; dsimp only; rw [h]; exact ⟨rfl, rfl, rfl, rfl, rfl⟩
theorem distinct_zero : ∀ {l : List Nat}, distinct 0 l = true → ∀ (i j r : Nat), l[i]? = some r → l[j]? = some r → i = j := fun h i j r hi hj => by
  have h1 := (distinct_pos h i r hi).2 0
  have h2 := (distinct_pos h j r hj).2 0
  rw [h1] at h2
  injection h2 with h2; omega

section
variable {β : Base} {s : St} {a : Act} {w : World} {g : Gh} {pm : Nat → Nat → Option (Nat × Path)} {C : Ctx}

theorem R.called (h : R β s a w g pm) {G : List Nat} (hG : distinct 0 G = true) {obs : List Ob} (hlen : obs.length = G.length) (hobs : ∀ (k r : Nat), G[k]? = some r → s.obj r = obs[k]?) {Ld : List Nat} {n0 : Nat} (hn0 : s.nx ≤ n0) (hnG : G.length ≤ n0)
    {w' : World} {rs : List V} {obs' : List Ob} {x : Value} {g' : Gh} {pm' : Nat → Nat → Option (Nat × Path)} (ha : After w w' (okLd β pm Ld) (givGh g G) (givPm pm G) obs obs' n0 rs x g' pm') (hcl : Ld = [] ∨ (G = [] ∧ ClR rs)) :
    R β (s.called G obs' (open3 n0 rs).2.1 (open3 n0 rs).2.2) a w' (calGh g g' G n0) (calPm pm pm' G) ∧
    VR w' (okc β (calPm pm pm' G)) (calGh g g' G n0) (s.called G obs' (open3 n0 rs).2.1 (open3 n0 rs).2.2).len (open3 n0 rs).1 x ∧
    (∀ v y, VR w (okc β pm) g s.len v y → VR w' (okc β (calPm pm pm' G)) (calGh g g' G n0) (s.called G obs' (open3 n0 rs).2.1 (open3 n0 rs).2.2).len (kill (hitG G) v) y) ∧
    (∀ b o r p, pm b o = some (r, p) → r ∉ G → w'.cell? ⟨b, o, none⟩ = w.cell? ⟨b, o, none⟩) := by
  generalize hl : (open3 n0 rs).2.1 = l at *
  have hsome := open3_some n0 rs
  rw [hl] at hsome
  have hlen' : obs'.length = G.length := ha.len.trans hlen
  -- which root stands where
  have hGx : ∀ r, s.obj r ≠ none → r < s.nx := fun r hr => by
    rcases Nat.lt_or_ge r s.nx with h1 | h1
    · exact h1
    · exact absurd (h.fresh r h1) hr
  have hlr : ∀ r, r < n0 → look none l r = none := fun r hr => by
    cases e : look none l r with
    | none => rfl
    | some o => have := ha.rng r (by rw [hl]; show look none l r ≠ none; rw [e]; simp); omega
  have hobj : ∀ r, (s.called G obs' l (open3 n0 rs).2.2).obj r = (match posOf r G 0 with | some k => obs'[k]? | none => if r < n0 then s.obj r else look none l r) := fun r => by
    show look none (givL G obs' ++ (l ++ s.ob)) r = _
    have hg := look_givL (G := G) (obs := obs') r hlen' hG
    cases hp : posOf r G 0 with
    | some k =>
      rw [hp] at hg
      obtain ⟨_, hk⟩ := posOf_some hp
      have hkl := (List.getElem?_eq_some_iff.1 hk).1
      rw [look_append_some]
      · exact hg
      · rw [hg]; dsimp only; rw [List.getElem?_eq_getElem (by omega)]; simp
    | none =>
      rw [hp] at hg
      rw [look_append_none _ _ _ (givL_some G obs') hg]
      dsimp only
      by_cases hr : r < n0
      · rw [if_pos hr, look_append_none _ _ _ hsome (hlr r hr)]; rfl
      · rw [if_neg hr]
        cases e : look none l r with
        | some o => rw [look_append_some _ _ _ (by rw [e]; simp), e]
        | none => rw [look_append_none _ _ _ hsome e]; exact h.fresh r (by omega)
  have hstk : ∀ k, k < G.length → (stO (l ++ obsO 0 obs')).obj k = obs'[k]? := fun k hk => by
    show look none (l ++ obsO 0 obs') k = _
    rw [look_append_none _ _ _ hsome (hlr k (by omega)), look_obsO, if_pos (Nat.zero_le _)]; rfl
  have hstl : ∀ r, n0 ≤ r → (stO (l ++ obsO 0 obs')).obj r = look none l r := fun r hr => by
    show look none (l ++ obsO 0 obs') r = _
    cases e : look none l r with
    | some o => rw [look_append_some _ _ _ (by rw [e]; simp), e]
    | none =>
      rw [look_append_none _ _ _ hsome e, look_obsO, if_pos (Nat.zero_le _)]
      exact List.getElem?_eq_none (by omega)
  have hatG : ∀ r k p, posOf r G 0 = some k → (s.called G obs' l (open3 n0 rs).2.2).at r p = (stO (l ++ obsO 0 obs')).at k p ∧ G[k]? = some r ∧ k < G.length := fun r k p hp => by
    obtain ⟨_, hk⟩ := posOf_some hp
    have hkl := (List.getElem?_eq_some_iff.1 hk).1
    refine ⟨?_, hk, hkl⟩
    unfold St.at
    rw [hobj, hp, hstk k hkl]
  have hatN : ∀ r p, posOf r G 0 = none → n0 ≤ r → (s.called G obs' l (open3 n0 rs).2.2).at r p = (stO (l ++ obsO 0 obs')).at r p := fun r p hp hr => by
    unfold St.at
    rw [hobj, hp, hstl r hr]; dsimp only; rw [if_neg (by omega)]
  have hatO : ∀ r p, posOf r G 0 = none → r < n0 → (s.called G obs' l (open3 n0 rs).2.2).at r p = s.at r p := fun r p hp hr => by
    unfold St.at
    rw [hobj, hp]; dsimp only; rw [if_pos hr]
  -- who owns what
  have hgiv : ∀ b o, givPm pm G b o ≠ none → ∃ r p k, pm b o = some (r, p) ∧ posOf r G 0 = some k := fun b o hb => by
    unfold givPm at hb
    cases e : pm b o with
    | none => rw [e] at hb; exact absurd rfl hb
    | some x =>
      obtain ⟨r, p⟩ := x
      rw [e] at hb
      dsimp only at hb
      cases e2 : posOf r G 0 with
      | none => rw [e2] at hb; exact absurd rfl hb
      | some k => exact ⟨r, p, k, rfl, e2⟩
  have hpm'n : ∀ b o, b < w.heap.size → givPm pm G b o = none → pm' b o = none := fun b o hb h0 => by
    cases e : pm' b o with
    | none => rfl
    | some y => rcases (ha.own b o (by rw [e]; simp)).1 with h1 | h1
                · exact absurd h0 h1
                · omega
  have hgivn : ∀ b o, pm b o = none → givPm pm G b o = none := fun b o hb => by unfold givPm; rw [hb]
  have hgivo : ∀ b o r p, pm b o = some (r, p) → posOf r G 0 = none → givPm pm G b o = none := fun b o r p hb hp => by unfold givPm; rw [hb]; dsimp only; rw [hp]; rfl
  have hk : ∀ b o c, okc β pm b o → w.cell? ⟨b, o, none⟩ = some c → okc β (calPm pm pm' G) b o ∧ w'.cell? ⟨b, o, none⟩ = some c := fun b o c h1 h2 => by
    have hb := cell_low h2
    have h0 := hgivn b o h1.1
    refine ⟨⟨?_, h1.2⟩, by rw [(ha.keep.cell b o hb h0).1]; exact h2⟩
    unfold calPm
    rw [hpm'n b o hb h0, h1.1]
  have hframe : ∀ b o r p, pm b o = some (r, p) → r ∉ G → w'.cell? ⟨b, o, none⟩ = w.cell? ⟨b, o, none⟩ ∧ w'.frozen? ⟨b, o, none⟩ = w.frozen? ⟨b, o, none⟩ ∧ calPm pm pm' G b o = some (r, p) := fun b o r p hb hr => by
    have hp := (posOf_none_iff (k := 0)).2 hr
    have h0 := hgivo b o r p hb hp
    have hlow := h.low b o (by rw [hb]; simp)
    refine ⟨(ha.keep.cell b o hlow h0).1, (ha.keep.cell b o hlow h0).2, ?_⟩
    unfold calPm
    rw [hpm'n b o hlow h0, hb]; dsimp only; rw [hp]
  have hok : Ld = [] → ∀ b o, okc ⟨w, okLd β pm Ld, givPm pm G, givGh g G, fun _ => none⟩ pm' b o → okc β (calPm pm pm' G) b o := fun hLd b o hb => by
    obtain ⟨h1, h2⟩ := hb
    have hh : pm b o = none ∨ givPm pm G b o ≠ none := by
      rcases h2 with h2 | h2 | h2
      · rcases h2 with h2 | ⟨r, p, _, h2⟩
        · exact .inl h2.1
        · rw [hLd] at h2; cases h2
      · exact .inr h2
      · cases e : pm b o with
        | none => exact .inl rfl
        | some y => have := h.low b o (by rw [e]; simp); dsimp only at h2; omega
    refine ⟨?_, ?_⟩
    · unfold calPm
      rw [h1]
      rcases hh with hh | hh
      · rw [hh]
      · obtain ⟨r, p, k, e1, e2⟩ := hgiv b o hh
        rw [e1]; dsimp only; rw [e2]
    · rcases h2 with h2 | h2 | h2
      · rcases h2 with h2 | ⟨r, p, _, h2⟩
        · exact h2.2
        · rw [hLd] at h2; cases h2
      · obtain ⟨r, p, k, e1, e2⟩ := hgiv b o h2
        rcases h.own b o (by rw [e1]; simp) with h3 | h3
        · exact .inr (.inl h3)
        · exact .inr (.inr h3)
      · have := h.keep.size
        exact .inr (.inr (by dsimp only at h2; omega))
  -- the ghosts
  have hghG : ∀ r k p, posOf r G 0 = some k → SameGh g' (calGh g g' G n0) k r p p := fun r k p hp => by
    exact calGh_new (by unfold whr; rw [hp]) p
  have hghN : ∀ r p, posOf r G 0 = none → n0 ≤ r → SameGh g' (calGh g g' G n0) r r p p := fun r p hp hr => by
    exact calGh_new (by unfold whr; rw [hp]; dsimp only; rw [if_neg (by omega)]) p
  have hghO : ∀ r p, posOf r G 0 = none → r < n0 → SameGh g (calGh g g' G n0) r r p p := fun r p hp hr => by
    exact calGh_old (by unfold whr; rw [hp]; dsimp only; rw [if_pos hr]) p
  have htop : ∀ r k o, posOf r G 0 = some k → s.obj r = some o → ∃ o', obs'[k]? = some o' ∧ SameGh g (calGh g g' G n0) r r [] [] ∧ o'.shape = o.shape := fun r k o hp ho => by
    obtain ⟨_, hkk, hkl⟩ := hatG r k [] hp
    have h1 : obs[k]? = some o := by rw [← hobs k r hkk]; exact ho
    have h2 : obs'[k]? = some obs'[k] := List.getElem?_eq_getElem (by omega)
    obtain ⟨t1, t2⟩ := ha.top k o _ h1 h2
    refine ⟨_, h2, ?_, t2⟩
    obtain ⟨e1, e2, e3, e4, e5⟩ := hghG r k [] hp
    obtain ⟨f1, f2, f3, f4, f5⟩ := t1
    have hgr : (G[k]?).getD 0 = r := by rw [hkk]; rfl
    simp only [givGh, hgr] at f1 f2 f3 f4 f5
    exact ⟨e1.trans f1, e2.trans f2, e3.trans f3, e4.trans f4, e5.trans f5⟩
  have hV : ∀ v y, VR w (okc β pm) g s.len v y → VR w' (okc β (calPm pm pm' G)) (calGh g g' G n0) (s.called G obs' l (open3 n0 rs).2.2).len (kill (hitG G) v) y := fun v y hv => by
    refine hv.kill hk (fun r p n hn hh => ?_)
    have hor : s.obj r ≠ none := fun e => by unfold St.len St.at at hn; rw [e] at hn; cases hn
    have hrn := hGx r hor
    cases hp : posOf r G 0 with
    | none => exact ⟨by unfold St.len at hn ⊢; rw [hatO r p hp (by omega)]; exact hn, hghO r p hp (by omega)⟩
    | some k =>
      cases p with
      | cons x p => unfold hitG at hh; dsimp only at hh; rw [hp] at hh; cases hh
      | nil =>
        obtain ⟨o, ho⟩ := Option.ne_none_iff_exists'.1 hor
        obtain ⟨o', h1, h2, h3⟩ := htop r k o hp ho
        refine ⟨?_, h2⟩
        unfold St.len St.at at hn ⊢
        rw [hobj, hp]
        dsimp only
        rw [h1]
        rw [ho] at hn
        simp only [sub, Option.map_some, Option.some.injEq] at hn ⊢
        have := congrArg (fun z => z.2.2.2) h3
        dsimp only [Ob.shape] at this
        omega
  have hclo : Ld = [] ∨ (G = [] ∧ NS (open3 n0 rs).1 ∧ ∀ r o, (r, some o) ∈ l → ClEs o.deep o.es) := by
    rcases hcl with h1 | ⟨h1, h2⟩
    · exact .inl h1
    · have := open3_cl (k := n0) h2
      rw [hl] at this
      exact .inr ⟨h1, this.1, this.2⟩
  have hbl : ∀ id p es d n, (stO (l ++ obsO 0 obs')).at id p = some (es, d, n) → (G = [] → id < n0 → False) → BR w' (okc β (calPm pm pm' G)) g' pm' id p es d n := fun id p es d n hat hid => by
    have hb := ha.blk id p es d n (by rw [hl]; exact hat)
    rcases hclo with h1 | ⟨h1, h2, h3⟩
    · exact hb.rename (fun b o c k1 _ => hok h1 b o k1) ⟨rfl, rfl, rfl, rfl, rfl⟩ (fun _ _ k1 => k1) (fun _ _ _ _ _ _ _ => ⟨rfl, rfl, rfl, rfl, rfl⟩)
    · refine hb.closed ?_
      have hge : n0 ≤ id := by
        rcases Nat.lt_or_ge id n0 with h4 | h4
        · exact (hid h1 h4).elim
        · exact h4
      unfold St.at at hat
      rw [hstl id hge] at hat
      cases e : look none l id with
      | none => rw [e] at hat; cases hat
      | some o =>
        rw [e] at hat
        exact (h3 id o (look_mem e)).sub hat
  refine ⟨?_, ?_, hV, fun b o r p h1 h2 => (hframe b o r p h1 h2).1⟩
  · exact {
      defers := h.defers
      fsz := h.fsz
      tm := fun t => by
        have : (s.called G obs' l (open3 n0 rs).2.2).get t = kill (hitG G) (s.get t) := by unfold St.get St.called; exact look_map V.dead V.dead _ rfl s.tm t
        rw [this]; exact hV _ _ (h.tm t)
      blk := fun r p es d n hat => by
        cases hp : posOf r G 0 with
        | some k =>
          obtain ⟨h1, h2, h3⟩ := hatG r k p hp
          rw [h1] at hat
          refine (hbl k p es d n hat (fun e _ => by rw [e] at h2; simp at h2)).rename (fun _ _ _ k1 _ => k1) (hghG r k p hp) (fun b o hb => ?_) (fun _ _ _ _ _ _ _ => hghG r k _ hp)
          unfold calPm
          rw [hb]; dsimp only; rw [h2]; rfl
        | none =>
          by_cases hr : r < n0
          · rw [hatO r p hp hr] at hat
            have hb := h.blk r p es d n hat
            have hrG := posOf_none_iff.1 hp
            obtain ⟨e1, e2, e3, e4, e5⟩ := hghO r p hp hr
            refine ⟨by rw [e3]; exact hb.siz, by rw [e5]; exact hb.nil, by rw [e4]; exact hb.len, by rw [e3]; exact hb.row, ?_, fun i j e v he hv => ?_⟩
            · rw [e1, e2, e3, e4, e5]
              intro hn k hkk
              obtain ⟨m1, m2, m3⟩ := hb.mine hn k hkk
              obtain ⟨f1, f2, f3⟩ := hframe _ _ _ _ m1 hrG
              exact ⟨f3, by rw [f2]; exact m2, by rw [f1]; exact m3⟩
            · rw [e1, e2, e3]
              obtain ⟨c, c1, c2⟩ := hb.cell i j e v he hv
              obtain ⟨_, _, _, hm⟩ := h.place hat he hv
              exact ⟨c, by rw [(hframe _ _ _ _ hm.1 hrG).1]; exact c1, CR.mono hk (fun _ => hghO r _ hp hr) c2⟩
          · rw [hatN r p hp (by omega)] at hat
            refine (hbl r p es d n hat (fun _ h4 => by omega)).rename (fun _ _ _ k1 _ => k1) (hghN r p hp (by omega)) (fun b o hb => ?_) (fun _ _ _ _ _ _ _ => hghN r _ hp (by omega))
            unfold calPm
            rw [hb]; dsimp only; rw [List.getElem?_eq_none (by omega)]; rfl
      fresh := fun r hr => by
        have hr : (open3 n0 rs).2.2 ≤ r := hr
        have hle := ha.le
        rw [hobj]
        cases hp : posOf r G 0 with
        | some k =>
          obtain ⟨_, hkk⟩ := posOf_some hp
          have hor : s.obj r ≠ none := by
            rw [hobs _ r hkk]
            have hkl := (List.getElem?_eq_some_iff.1 hkk).1
            rw [List.getElem?_eq_getElem (by omega)]; simp
          have := hGx r hor
          omega
        | none =>
          dsimp only
          rw [if_neg (by omega)]
          cases e : look none l r with
          | none => rfl
          | some o => have := (ha.rng r (by rw [hl]; show look none l r ≠ none; rw [e]; simp)).2; omega
      own := fun b o hb => by
        unfold calPm at hb
        cases e : pm' b o with
        | some y =>
          rcases (ha.own b o (by rw [e]; simp)).1 with h1 | h1
          · obtain ⟨r, p, k, e1, e2⟩ := hgiv b o h1
            exact h.own b o (by rw [e1]; simp)
          · have := h.keep.size; exact .inr (by omega)
        | none =>
          rw [e] at hb
          dsimp only at hb
          exact h.own b o (fun e1 => by rw [e1] at hb; exact absurd rfl hb)
      keep := {
        os := ha.keep.os.trans h.keep.os, tape := ha.keep.tape.trans h.keep.tape, output := ha.keep.output.trans h.keep.output
        size := Nat.le_trans h.keep.size ha.keep.size
        block := fun b hb h0 => by
          have hsz := h.keep.size
          rw [ha.keep.block b (by omega) (fun o => ?_)]
          · exact h.keep.block b hb h0
          · cases e : givPm pm G b o with
            | none => rfl
            | some y =>
              obtain ⟨r, p, k, e1, e2⟩ := hgiv b o (by rw [e]; simp)
              rcases h.own b o (by rw [e1]; simp) with h1 | h1
              · exact absurd (h0 o) h1
              · omega
        cell := fun b o hb h0 => by
          have hsz := h.keep.size
          have hgn : givPm pm G b o = none := by
            cases e : givPm pm G b o with
            | none => rfl
            | some y =>
              obtain ⟨r, p, k, e1, e2⟩ := hgiv b o (by rw [e]; simp)
              rcases h.own b o (by rw [e1]; simp) with h1 | h1
              · exact absurd h0 h1
              · omega
          obtain ⟨k1, k2⟩ := ha.keep.cell b o (by omega) hgn
          rw [k1, k2]; exact h.keep.cell b o hb h0 }
      low := fun b o hb => by
        unfold calPm at hb
        cases e : pm' b o with
        | some y => exact (ha.own b o (by rw [e]; simp)).2
        | none =>
          rw [e] at hb
          dsimp only at hb
          have := h.low b o (fun e1 => by rw [e1] at hb; exact absurd rfl hb)
          have := ha.keep.size
          omega
      ngnx := by
        show s.ng ≤ (open3 n0 rs).2.2
        have := h.ngnx
        have := ha.le
        omega
      top := fun k hk0 => by
        have hk0 : k < s.ng := hk0
        have hng := h.ngnx
        obtain ⟨t1, t2⟩ := h.top k hk0
        cases hp : posOf k G 0 with
        | none =>
          obtain ⟨e1, e2, e3, e4, e5⟩ := hghO k [] hp (by omega)
          refine ⟨⟨e1.trans t1.1, e2.trans t1.2.1, e3.trans t1.2.2.1, e4.trans t1.2.2.2.1, e5.trans t1.2.2.2.2⟩, ?_⟩
          have : (s.called G obs' l (open3 n0 rs).2.2).shape k = s.shape k := by unfold St.shape; rw [hobj, hp]; dsimp only; rw [if_pos (by omega)]
          rw [this]; exact t2
        | some i =>
          obtain ⟨_, hii⟩ := posOf_some hp
          have hil := (List.getElem?_eq_some_iff.1 hii).1
          have ho : s.obj k = some (obs[i - 0]'(by omega)) := by rw [hobs _ k hii]; exact List.getElem?_eq_getElem (by omega)
          obtain ⟨o', h1, ⟨e1, e2, e3, e4, e5⟩, h3⟩ := htop k i _ hp ho
          refine ⟨⟨e1.trans t1.1, e2.trans t1.2.1, e3.trans t1.2.2.1, e4.trans t1.2.2.2.1, e5.trans t1.2.2.2.2⟩, ?_⟩
          rw [← t2]
          unfold St.shape
          rw [hobj, hp]
          dsimp only
          rw [h1, ho]
          exact congrArg some h3 }
  · have hv := ha.val
    rw [hl] at hv
    have hlenN : ∀ r p n, (stO l).len r p = some n → (s.called G obs' l (open3 n0 rs).2.2).len r p = some n ∧ SameGh g' (calGh g g' G n0) r r p p := fun r p n hn => by
      have hne : look none l r ≠ none := fun e => by
        unfold St.len St.at at hn
        rw [show (stO l).obj r = none from e] at hn; cases hn
      have hr : n0 ≤ r := by
        rcases Nat.lt_or_ge r n0 with h1 | h1
        · exact absurd (hlr r h1) hne
        · exact h1
      have hp : posOf r G 0 = none := by
        cases e : posOf r G 0 with
        | none => rfl
        | some k =>
          obtain ⟨_, hkk⟩ := posOf_some e
          have hkl := (List.getElem?_eq_some_iff.1 hkk).1
          have := hGx r (by rw [hobs _ r hkk, List.getElem?_eq_getElem (by omega)]; simp)
          omega
      refine ⟨?_, hghN r p hp hr⟩
      unfold St.len St.at at hn ⊢
      rw [hobj, hp]
      dsimp only
      rw [if_neg (by omega)]; exact hn
    rcases hclo with h1 | ⟨h1, h2, h3⟩
    · exact hv.mono (fun b o c k1 k2 => ⟨hok h1 b o k1, k2⟩) hlenN
    · have hv2 : VR w' (okc β (calPm pm pm' G)) g' (stO l).len (open3 n0 rs).1 x := hv.ns h2
      exact hv2.mono (fun b o c k1 k2 => ⟨k1, k2⟩) hlenN
end
end Ev
namespace Ev
open Go Go.RowKit
set_option linter.unusedVariables false
set_option linter.unusedSimpArgs false

theorem look_zip : ∀ (args : List V) (m t : Nat), look .dead ((List.range' m args.length).zip args) t = if m ≤ t then args.getD (t - m) .dead else .dead
  | [], m, t => by simp [look]
  | v :: vs, m, t => by
    rw [List.length_cons, List.range'_succ, List.zip_cons_cons, look_cons, look_zip vs (m + 1) t]
    by_cases h : m = t
    · subst h; rw [if_pos rfl, if_pos (Nat.le_refl _), Nat.sub_self]; rfl
    · rw [if_neg h]
      by_cases h' : m ≤ t
      · rw [if_pos (by omega), if_pos h', show t - m = (t - (m + 1)) + 1 by omega, List.getD_cons_succ]
      · rw [if_neg (by omega), if_neg h']
/-- What a call begins with. -/
def baseOf (w : World) (ok : Nat → Nat → Prop) (pm : Nat → Nat → Option (Nat × Path)) (g : Gh) (obs : List Ob) : Base := ⟨w, ok, pm, g, fun k => (obs[k]?).map Ob.shape⟩
def numT : Nat → List V → List (Nat × V)
  | _, [] => []
  | k, v :: vs => (k, v) :: numT (k + 1) vs
def startSt (args : List V) (obs : List Ob) (n : Nat) : St := ⟨numT 0 args, obsO 0 obs, obs.length, n, obs.length⟩
theorem look_numT : ∀ (args : List V) (m t : Nat), look .dead (numT m args) t = if m ≤ t then args.getD (t - m) .dead else .dead
  | [], m, t => by simp [look, numT]
  | v :: vs, m, t => by
    show look .dead ((m, v) :: numT (m + 1) vs) t = _
    rw [look_cons, look_numT vs (m + 1) t]
    by_cases h : m = t
    · subst h; rw [if_pos rfl, if_pos (Nat.le_refl _), Nat.sub_self]; rfl
    · rw [if_neg h]
      by_cases h' : m ≤ t
      · rw [if_pos (by omega), if_pos h', show t - m = (t - (m + 1)) + 1 by omega, List.getD_cons_succ]
      · rw [if_neg (by omega), if_neg h']

theorem R.start {w : World} {ok : Nat → Nat → Prop} {g : Gh} {pm : Nat → Nat → Option (Nat × Path)} {args : List V} {obs : List Ob} {xs : List Value} {n : Nat} (hl : xs.length = args.length) (hn : args.length ≤ n)
    (hx : ∀ (k : Nat) (v : V) (x : Value), args[k]? = some v → xs[k]? = some x → VR w ok g (stO (obsO 0 obs)).len v x)
    (hb : ∀ r p es d n, (stO (obsO 0 obs)).at r p = some (es, d, n) → BR w ok g pm r p es d n) (hlow : ∀ b o, pm b o ≠ none → b < w.heap.size) (hdis : ∀ b o, ok b o → pm b o = none) :
    R (baseOf w ok pm g obs) (startSt args obs n) { tmps := xs.toArray ++ Array.replicate (n - xs.toArray.size) undef, defers := [] } w g pm := by
  have hat : ∀ r p, (startSt args obs n).at r p = (stO (obsO 0 obs)).at r p := fun r p => rfl
  have hk : ∀ b o c, ok b o → w.cell? ⟨b, o, none⟩ = some c → okc (baseOf w ok pm g obs) pm b o ∧ w.cell? ⟨b, o, none⟩ = some c := fun b o c h1 h2 => ⟨⟨hdis b o h1, .inl h1⟩, h2⟩
  exact {
    defers := rfl
    fsz := by show (xs.toArray ++ _).size = n; simp; omega
    tm := fun t => by
      show VR w _ g _ (look .dead (numT 0 args) t) _
      rw [look_numT, if_pos (Nat.zero_le _), Nat.sub_zero]
      cases e : args[t]? with
      | none => rw [List.getD_eq_getElem?_getD, e]; exact .dead _
      | some v =>
        have hlt := (List.getElem?_eq_some_iff.1 e).1
        have hxt : xs[t]? = some xs[t] := List.getElem?_eq_getElem (by omega)
        have h1 : (xs.toArray ++ Array.replicate (n - xs.toArray.size) undef).getD t undef = xs[t] := by
          rw [Array.getD_eq_getD_getElem?, Array.getElem?_append_left (by simp; omega)]
          simp [hxt]
        rw [List.getD_eq_getElem?_getD, e]
        show VR w _ g _ v ((xs.toArray ++ Array.replicate (n - xs.toArray.size) undef).getD t undef)
        rw [h1]
        exact (hx t v _ e hxt).mono hk (fun r p m hm => ⟨hm, rfl, rfl, rfl, rfl, rfl⟩)
    blk := fun r p es d m hh => (hb r p es d m hh).rename (fun b o c h1 h2 => (hk b o c h1 h2).1) ⟨rfl, rfl, rfl, rfl, rfl⟩ (fun _ _ h1 => h1) (fun _ _ _ _ _ _ _ => ⟨rfl, rfl, rfl, rfl, rfl⟩)
    fresh := fun r hr => by
      show look none (obsO 0 obs) r = none
      have hr : obs.length ≤ r := hr
      rw [look_obsO, if_pos (Nat.zero_le _)]
      exact List.getElem?_eq_none (by omega)
    own := fun b o h => .inl h
    keep := ⟨rfl, rfl, rfl, Nat.le_refl _, fun _ _ _ => rfl, fun _ _ _ _ => ⟨rfl, rfl⟩⟩
    low := hlow
    ngnx := Nat.le_refl _
    top := fun k hk0 => by
      refine ⟨⟨rfl, rfl, rfl, rfl, rfl⟩, ?_⟩
      show (look none (obsO 0 obs) k).map _ = (obs[k]?).map Ob.shape
      rw [look_obsO, if_pos (Nat.zero_le _)]; rfl }

-- what is given back
abbrev Place := Nat × Path × Bool
def close1 (s : St) : V → Option V
  | .sc x => some (.sc x)
  | .sh n es => some (.sh n es)
  | .hdr r p => match s.at r p with
    | some (es, d, n) => some (.own d n es)
    | none => none
  | .ptr r [] 0 0 => match s.obj r with
    | some ⟨[row], true, _, _⟩ => some (.obx row)
    | _ => none
  | _ => none
def close2 (s : St) : V → Option V
  | .agg vs => match lendL (close1 s) vs with
    | some l => some (.agg l)
    | none => none
  | v => close1 s v
def places1 : V → List Place
  | .hdr r p => [(r, p, false)]
  | .ptr r [] _ _ => [(r, [], true)]
  | _ => []
def places2 : V → List Place
  | .agg vs => vs.flatMap places1
  | v => places1 v
def apart2 (x y : Place) : Bool :=
  match Nat.beq x.1 y.1 with
  | false => true
  | true => match isPre (x.2.1.map Prod.snd) (y.2.1.map Prod.snd) with
    | true => false
    | false => match isPre (y.2.1.map Prod.snd) (x.2.1.map Prod.snd) with
      | true => false
      | false => true
def allB {α : Type} (f : α → Bool) : List α → Bool
  | [] => true
  | x :: l => match f x with
    | true => allB f l
    | false => false
def apartL : List Place → Bool
  | [] => true
  | x :: l => match allB (apart2 x) l with
    | true => apartL l
    | false => false
/-- The objects that were given, as they are now. -/
def takeObs (s : St) : Nat → Nat → Option (List Ob)
  | _, 0 => some []
  | k, n + 1 => match s.obj k with
    | some o => match takeObs s (k + 1) n with
      | some l => some (o :: l)
      | none => none
    | none => none
def objsFrom (s : St) : Nat → List Place → List (Nat × Option Ob)
  | _, [] => []
  | k, x :: l => (k, (s.at x.1 x.2.1).map fun y => ⟨y.1, y.2.1, y.2.2, x.2.2⟩) :: objsFrom s (k + 1) l
theorem objsFrom_append (s : St) : ∀ (k : Nat) (l m : List Place), objsFrom s k (l ++ m) = objsFrom s k l ++ objsFrom s (k + l.length) m
  | k, [], m => rfl
  | k, x :: l, m => by
    show _ :: objsFrom s (k + 1) (l ++ m) = _ :: (objsFrom s (k + 1) l ++ _)
    rw [objsFrom_append s (k + 1) l m, List.length_cons, show k + 1 + l.length = k + (l.length + 1) by omega]
theorem look_objsFrom (s : St) : ∀ (k : Nat) (l : List Place) (r : Nat), look none (objsFrom s k l) r = if k ≤ r then (l[r - k]?).bind (fun x => (s.at x.1 x.2.1).map fun y => ⟨y.1, y.2.1, y.2.2, x.2.2⟩) else none
  | k, [], r => by simp [objsFrom, look]
  | k, x :: l, r => by
    show look none ((k, _) :: objsFrom s (k + 1) l) r = _
    rw [look_cons, look_objsFrom s (k + 1) l r]
    by_cases h : k = r
    · subst h; rw [if_pos rfl, if_pos (Nat.le_refl _), Nat.sub_self]; rfl
    · rw [if_neg h]
      by_cases h' : k ≤ r
      · rw [if_pos (by omega), if_pos h', show r - k = (r - (k + 1)) + 1 by omega, List.getElem?_cons_succ]
      · rw [if_neg (by omega), if_neg h']

def RowsOf (s : St) : Prop := ∀ (r : Nat) (o : Ob) (i : Nat) (row : List V), s.obj r = some o → o.es[i]? = some row → row.length = o.sz
/-- How a closed value opens again. -/
structure OpenOk (s : St) (close : V → Option V) (places : V → List Place) (opn : Nat → V → V × List (Nat × Option Ob) × Nat) : Prop where
  obs : RowsOf s → ∀ k v u, close v = some u → (opn k u).2.1 = objsFrom s k (places v) ∧ (opn k u).2.2 = k + (places v).length
  val : ∀ k v u, close v = some u → ∀ {w : World} {ok ok' : Nat → Nat → Prop} {g g' : Gh} {at' : Nat → Path → Option Nat} (hk : ∀ b o c, ok b o → w.cell? ⟨b, o, none⟩ = some c → ok' b o) (hp : ∀ (i r : Nat) (p : Path) (b : Bool), (places v)[i]? = some (r, p, b) → at' (k + i) [] = s.len r p ∧ SameGh g g' r (k + i) p []) {x : Value}, VR w ok g s.len v x → VR w ok' g' at' (opn k u).1 x

theorem close1_ptr {s : St} {r : Nat} {p : Path} {i j : Nat} {u : V} (h : close1 s (.ptr r p i j) = some u) : p = [] ∧ i = 0 ∧ j = 0 ∧ ∃ row n b, s.obj r = some ⟨[row], true, n, b⟩ ∧ u = .obx row := by
  unfold close1 at h
  split at h <;> try cases h
  · rename_i hx; cases hx
  · rename_i hx; cases hx
  · rename_i hx; cases hx
  · rename_i r' hx
    injection hx with h1 h2 h3 h4
    subst h1; subst h2; subst h3; subst h4
    split at h
    · rename_i row n b ho
      exact ⟨rfl, rfl, rfl, row, n, b, ho, (Option.some.inj h).symm⟩
    · cases h

theorem open1_ok (s : St) : OpenOk s (close1 s) places1 open1 := by
  refine ⟨fun hrow k v u he => ?_, fun k v u he w ok ok' g g' at' hk hp x h => ?_⟩
  · cases v with
    | sc y => obtain rfl := Option.some.inj he; exact ⟨rfl, rfl⟩
    | sh n es => obtain rfl := Option.some.inj he; exact ⟨rfl, rfl⟩
    | hdr r p =>
      simp only [close1] at he
      split at he
      case h_2 => cases he
      rename_i _ es d n hat
      obtain rfl := Option.some.inj he
      exact ⟨by simp [open1, places1, objsFrom, hat], rfl⟩
    | ptr r p i j =>
      obtain ⟨rfl, rfl, rfl, row, n, b, ho, rfl⟩ := close1_ptr he
      have hl := hrow r _ 0 row ho rfl
      have hat : s.at r [] = some ([row], true, n) := by unfold St.at; rw [ho]; rfl
      refine ⟨?_, rfl⟩
      simp only [open1, places1, objsFrom, hat, Option.map_some]
      rw [hl]
    | _ => cases he
  · cases h with
    | sc y => obtain rfl := Option.some.inj he; exact .sc _
    | sh n es c h => obtain rfl := Option.some.inj he; exact .sh n es _ (h.mono (fun b o c h1 h2 => ⟨hk b o c h1 h2, h2⟩))
    | hdr r p n c ha h =>
      simp only [close1] at he
      split at he
      case h_2 => cases he
      rename_i _ es d m hat
      obtain rfl := Option.some.inj he
      obtain ⟨h1, h2⟩ := hp 0 r p false rfl
      exact .hdr k [] n _ (by rw [Nat.add_zero] at h1; rw [h1]; exact ha) (h.same (by rw [Nat.add_zero] at h2; exact h2))
    | ptr r p i j n hn hl =>
      obtain ⟨rfl, rfl, rfl, row, m, b, ho, rfl⟩ := close1_ptr he
      obtain ⟨h1, e1, e2, e3, e4, e5⟩ := hp 0 r [] true rfl
      rw [Nat.add_zero] at h1 e1 e2 e3 e4 e5
      have := VR.ptr (w := w) (ok := ok') (g := g') (at_ := at') k [] 0 0 n (by rw [h1]; exact hn) (e5.trans hl)
      rw [e1, e2, e3] at this; exact this
    | _ => cases he

theorem openL_ok {s : St} {close : V → Option V} {places : V → List Place} {opn : Nat → V → V × List (Nat × Option Ob) × Nat} (h : OpenOk s close places opn) : ∀ (vs us : List V) (k : Nat), lendL close vs = some us →
    (RowsOf s → (openL opn k us).2.1 = objsFrom s k (vs.flatMap places) ∧ (openL opn k us).2.2 = k + (vs.flatMap places).length) ∧
    (RowsOf s → ∀ {w : World} {ok ok' : Nat → Nat → Prop} {g g' : Gh} {at' : Nat → Path → Option Nat} (hk : ∀ b o c, ok b o → w.cell? ⟨b, o, none⟩ = some c → ok' b o) (hp : ∀ (i r : Nat) (p : Path) (b : Bool), (vs.flatMap places)[i]? = some (r, p, b) → at' (k + i) [] = s.len r p ∧ SameGh g g' r (k + i) p []) {xs : List Value}, xs.length = vs.length → (∀ (k : Nat) (v : V) (x : Value), vs[k]? = some v → xs[k]? = some x → VR w ok g s.len v x) →
      xs.length = (openL opn k us).1.length ∧ ∀ (j : Nat) (v : V) (x : Value), (openL opn k us).1[j]? = some v → xs[j]? = some x → VR w ok' g' at' v x)
  | [], us, k, he => by
    obtain rfl := Option.some.inj (show some [] = some us from he)
    exact ⟨fun _ => ⟨rfl, rfl⟩, fun _ {w ok ok' g g' at'} hk hp xs hl hx => ⟨hl, fun j v x hv => by simp [openL] at hv⟩⟩
  | v :: vs, us, k, he => by
    unfold lendL at he
    split at he
    case h_2 => cases he
    rename_i _ u hu
    split at he
    case h_2 => cases he
    rename_i _ us' hus
    obtain rfl := Option.some.inj he
    have e1 : (openL opn k (u :: us')).2.1 = (opn k u).2.1 ++ (openL opn (opn k u).2.2 us').2.1 := rfl
    have e2 : (openL opn k (u :: us')).2.2 = (openL opn (opn k u).2.2 us').2.2 := rfl
    have e3 : (openL opn k (u :: us')).1 = (opn k u).1 :: (openL opn (opn k u).2.2 us').1 := rfl
    obtain ⟨i12, i3⟩ := openL_ok h vs us' (k + (places v).length) hus
    refine ⟨fun hrow => ?_, fun hrow {w ok ok' g g' at'} hk hp xs hl hx => ?_⟩
    · obtain ⟨o1, o2⟩ := h.obs hrow k v u hu
      obtain ⟨i1, i2⟩ := i12 hrow
      rw [e1, e2, o1, o2, i1, i2, List.flatMap_cons]
      exact ⟨(objsFrom_append s k _ _).symm, by rw [List.length_append]; omega⟩
    · obtain ⟨o1, o2⟩ := h.obs hrow k v u hu
      rw [List.flatMap_cons] at hp
      rw [e3, o2]
      cases xs with
      | nil => cases hl
      | cons x xs =>
        have hl' : xs.length = vs.length := by simpa using hl
        obtain ⟨j1, j2⟩ := i3 hrow (g := g) hk (fun i r p b hi => by
          have := hp ((places v).length + i) r p b (by rw [List.getElem?_append_right (by omega), show (places v).length + i - (places v).length = i by omega]; exact hi)
          rw [← Nat.add_assoc] at this
          exact this) hl' (fun q y z hy hz => hx (q + 1) y z (by rw [List.getElem?_cons_succ]; exact hy) (by rw [List.getElem?_cons_succ]; exact hz))
        refine ⟨by simp [j1], fun j y z hy hz => ?_⟩
        cases j with
        | zero =>
          simp only [List.getElem?_cons_zero, Option.some.injEq] at hy hz
          subst hy hz
          exact h.val k v u hu hk (fun i r p b hi => hp i r p b (by rw [List.getElem?_append_left (List.getElem?_eq_some_iff.1 hi).1]; exact hi)) (hx 0 v x rfl rfl)
        | succ j =>
          rw [List.getElem?_cons_succ] at hy hz
          exact j2 j y z hy hz

theorem open2_ok (s : St) (hr : RowsOf s) : OpenOk s (close2 s) places2 open2 := by
  have h1 := open1_ok s
  refine ⟨fun hrow k v u he => ?_, fun k v u he w ok ok' g g' at' hk hp x h => ?_⟩
  · cases v with
    | agg vs =>
      simp only [close2] at he
      split at he
      case h_2 => cases he
      rename_i _ us hus
      obtain rfl := Option.some.inj he
      exact (openL_ok h1 vs us k hus).1 hrow
    | sc y => exact h1.obs hrow k (.sc y) u he |> fun h => by obtain rfl := Option.some.inj (show some (V.sc y) = some u from he); exact h
    | sh n es => exact h1.obs hrow k (.sh n es) u he |> fun h => by obtain rfl := Option.some.inj (show some (V.sh n es) = some u from he); exact h
    | hdr r p =>
      have he' : close1 s (.hdr r p) = some u := he
      have := h1.obs hrow k (.hdr r p) u he'
      simp only [close1] at he'
      split at he'
      case h_2 => cases he'
      obtain rfl := Option.some.inj he'
      exact this
    | ptr r p i j =>
      have he' : close1 s (.ptr r p i j) = some u := he
      have := h1.obs hrow k (.ptr r p i j) u he'
      obtain ⟨rfl, rfl, rfl, row, n, b, ho, rfl⟩ := close1_ptr he'
      exact this
    | _ => cases he
  · cases h with
    | agg vs xs hl hx =>
      simp only [close2] at he
      split at he
      case h_2 => cases he
      rename_i _ us hus
      obtain rfl := Option.some.inj he
      obtain ⟨j1, j2⟩ := (openL_ok h1 vs us k hus).2 hr hk hp hl hx
      exact .agg _ xs j1 j2
    | sc y =>
      have := h1.val k (.sc x) u he hk hp (.sc x)
      obtain rfl := Option.some.inj (show some (V.sc x) = some u from he); exact this
    | sh n es c h =>
      have := h1.val k (.sh n es) u he hk hp (.sh n es _ h)
      obtain rfl := Option.some.inj (show some (V.sh n es) = some u from he); exact this
    | hdr r p n c ha h =>
      have he' : close1 s (.hdr r p) = some u := he
      have := h1.val k (.hdr r p) u he' hk hp (.hdr r p n x ha h)
      simp only [close1] at he'
      split at he'
      case h_2 => cases he'
      obtain rfl := Option.some.inj he'
      exact this
    | ptr r p i j n hn hl =>
      have he' : close1 s (.ptr r p i j) = some u := he
      have := h1.val k (.ptr r p i j) u he' hk hp (.ptr r p i j n hn hl)
      obtain ⟨rfl, rfl, rfl, row, n, b, ho, rfl⟩ := close1_ptr he'
      exact this
    | _ => cases he
end Ev
namespace Ev
open Go Go.RowKit
set_option linter.unusedVariables false
set_option linter.unusedSimpArgs false

/-- Which opened object stands at a place, and where in it. -/
def findP : List Place → Nat → Nat × Path → Option (Nat × Path)
  | [], _, _ => none
  | x :: l, k, y => if x.1 = y.1 ∧ x.2.1 <+: y.2 then some (k, y.2.drop x.2.1.length) else findP l (k + 1) y
theorem map_prefix {α β : Type} (f : α → β) {l m : List α} (h : l <+: m) : l.map f <+: m.map f := by
  obtain ⟨t, rfl⟩ := h
  exact ⟨t.map f, by rw [List.map_append]⟩
theorem allB_all {α : Type} {f : α → Bool} : ∀ {l : List α}, allB f l = true → ∀ x ∈ l, f x = true
  | [], h, x, hx => by cases hx
  | y :: l, h, x, hx => by
    unfold allB at h
    split at h
    case h_2 => cases h
    rename_i hy
    rcases List.mem_cons.1 hx with rfl | hx
    · exact hy
    · exact allB_all h x hx
theorem findP_ok : ∀ {l : List Place} (k : Nat), apartL l = true → ∀ {i r : Nat} {p : Path} {b : Bool} (q : Path), l[i]? = some (r, p, b) → findP l k (r, p ++ q) = some (k + i, q)
  | [], k, _, i, r, p, b, q, hi => by simp at hi
  | x :: l, k, ha, i, r, p, b, q, hi => by
    unfold apartL at ha
    split at ha
    case h_2 => cases ha
    rename_i hx0
    unfold findP
    cases i with
    | zero =>
      simp only [List.getElem?_cons_zero, Option.some.injEq] at hi
      subst hi
      rw [if_pos ⟨rfl, List.prefix_append _ _⟩]
      simp
    | succ i =>
      rw [List.getElem?_cons_succ] at hi
      have hx := allB_all hx0 (r, p, b) (List.mem_of_getElem? hi)
      rw [if_neg (fun hh => ?_), findP_ok (k + 1) ha q hi, show k + 1 + i = k + (i + 1) by omega]
      obtain ⟨h1, h2⟩ := hh
      unfold apart2 at hx
      have hb : Nat.beq x.1 (r, p, b).1 = true := by
        show Nat.beq x.1 r = true
        rw [h1]; exact Nat.beq_refl _
      rw [hb] at hx
      dsimp only at hx h2
      rcases List.prefix_or_prefix_of_prefix h2 (List.prefix_append p q) with h3 | h3
      · rw [isPre_of (map_prefix _ h3)] at hx; cases hx
      · rw [isPre_of (map_prefix _ h3)] at hx
        split at hx <;> cases hx

theorem takeObs_ok {s : St} : ∀ {n k : Nat} {l : List Ob}, takeObs s k n = some l → l.length = n ∧ ∀ i, i < n → s.obj (k + i) = l[i]?
  | 0, k, l, h => by
    obtain rfl := Option.some.inj (show some [] = some l from h)
    exact ⟨rfl, fun i hi => by omega⟩
  | n + 1, k, l, h => by
    unfold takeObs at h
    split at h
    case h_2 => cases h
    rename_i _ o ho
    split at h
    case h_2 => cases h
    rename_i _ l' hl
    obtain rfl := Option.some.inj h
    obtain ⟨h1, h2⟩ := takeObs_ok hl
    refine ⟨by simp [h1], fun i hi => ?_⟩
    cases i with
    | zero => exact ho
    | succ i => rw [List.getElem?_cons_succ, ← h2 i (by omega), show k + (i + 1) = k + 1 + i by omega]
theorem open3_eq (k : Nat) (rs : List V) : (open3 k rs).2 = (openL open2 k rs).2 := by
  cases rs with
  | nil => rfl
  | cons v vs => cases vs with
    | nil => simp [open3, openL]
    | cons u us => rfl
/-- What a function gives back is told. -/
def rootsOk (ng : Nat) : List Place → Bool
  | [] => true
  | x :: l => match Nat.ble ng x.1 with
    | true => rootsOk ng l
    | false => false
theorem rootsOk_spec {ng : Nat} : ∀ {l : List Place}, rootsOk ng l = true → ∀ x ∈ l, ng ≤ x.1
  | [], h, x, hx => by cases hx
  | y :: l, h, x, hx => by
    unfold rootsOk at h
    split at h
    case h_2 => cases h
    rename_i hy
    rcases List.mem_cons.1 hx with rfl | hx
    · exact Nat.le_of_ble_eq_true hy
    · exact rootsOk_spec h x hx
def packR : List Value → Value
  | [x] => x
  | xs => .tuple xs.toArray

section
variable {s : St} {a : Act} {w0 w : World} {ok : Nat → Nat → Prop} {g0 g : Gh} {pm0 pm : Nat → Nat → Option (Nat × Path)} {obs : List Ob}

theorem R.ret (h : R (baseOf w0 ok pm0 g0 obs) s a w g pm) (hng : s.ng = obs.length) {obs' : List Ob} (hobs : takeObs s 0 s.ng = some obs') {vs rs : List V} {xs : List Value} (hl : xs.length = vs.length) (hx : ∀ (k : Nat) (v : V) (x : Value), vs[k]? = some v → xs[k]? = some x → VR w (okc (baseOf w0 ok pm0 g0 obs) pm) g s.len v x)
    (hap : apartL (vs.flatMap places2) = true) (hro : rootsOk s.ng (vs.flatMap places2) = true) (he : lendL (close2 s) vs = some rs) {n0 : Nat} (hn0 : obs.length ≤ n0) :
    ∃ g' pm', After w0 w ok g0 pm0 obs obs' n0 rs (packR xs) g' pm' := by
  obtain ⟨hol, hoi⟩ := takeObs_ok hobs
  have hrows : RowsOf s := fun r o i row ho hr => by
    have hat : s.at r [] = some (o.es, o.deep, o.sz) := by unfold St.at; rw [ho]; rfl
    have hb := h.blk r [] _ _ _ hat
    rw [hb.row i row hr, hb.siz]
  obtain ⟨o12, o3⟩ := openL_ok (open2_ok s hrows) vs rs n0 he
  obtain ⟨o1, o2⟩ := o12 hrows
  have e1 : (open3 n0 rs).2.1 = objsFrom s n0 (vs.flatMap places2) := by rw [open3_eq]; exact o1
  have e2 : (open3 n0 rs).2.2 = n0 + (vs.flatMap places2).length := by rw [open3_eq]; exact o2
  generalize hPL : vs.flatMap places2 = PL at *
  have hrs := rootsOk_spec hro
  -- the new names
  let nm : Nat → Path → Nat × Path := fun r q => if r < n0 then (r, q) else match PL[r - n0]? with
    | some x => (x.1, x.2.1 ++ q)
    | none => (r, q)
  have hnmlt : ∀ r q, r < n0 → nm r q = (r, q) := fun r q hr => by show (if r < n0 then _ else _) = _; rw [if_pos hr]
  have hnm : ∀ (i r : Nat) (p q : Path) (b : Bool), PL[i]? = some (r, p, b) → nm (n0 + i) q = (r, p ++ q) := fun i r p q b hi => by
    show (if n0 + i < n0 then _ else match PL[n0 + i - n0]? with | some x => (x.1, x.2.1 ++ q) | none => (n0 + i, q)) = _
    rw [if_neg (by omega), show n0 + i - n0 = i by omega, hi]
  let pm' : Nat → Nat → Option (Nat × Path) := fun b o => match pm b o with
    | some (r, p) => if r < s.ng then some (r, p) else findP PL n0 (r, p)
    | none => none
  have hpmn : ∀ b o, pm' b o ≠ none → pm b o ≠ none := fun b o hb e => hb (by show (match pm b o with | some (r, p) => if r < s.ng then some (r, p) else findP PL n0 (r, p) | none => none) = none; rw [e])
  have hpmg : ∀ b o r p, pm b o = some (r, p) → r < s.ng → pm' b o = some (r, p) := fun b o r p hb hr => by
    show (match pm b o with | some (r, p) => if r < s.ng then some (r, p) else findP PL n0 (r, p) | none => none) = _
    rw [hb]; dsimp only; rw [if_pos hr]
  have hpmf : ∀ b o r p, pm b o = some (r, p) → ¬ r < s.ng → pm' b o = findP PL n0 (r, p) := fun b o r p hb hr => by
    show (match pm b o with | some (r, p) => if r < s.ng then some (r, p) else findP PL n0 (r, p) | none => none) = _
    rw [hb]; dsimp only; rw [if_neg hr]
  let gn : Gh := ⟨fun r q => g.blk (nm r q).1 (nm r q).2, fun r q => g.off (nm r q).1 (nm r q).2, fun r q => g.sz (nm r q).1 (nm r q).2, fun r q => g.cap (nm r q).1 (nm r q).2, fun r q => g.nl (nm r q).1 (nm r q).2⟩
  have hgn : ∀ r q r1 q1, nm r q = (r1, q1) → SameGh g gn r1 r q1 q := fun r q r1 q1 hh => by
    unfold SameGh; simp only [gn, hh]; exact ⟨trivial, trivial, trivial, trivial, trivial⟩
  have hok : ∀ b o, okc (baseOf w0 ok pm0 g0 obs) pm b o → okc ⟨w0, ok, pm0, g0, fun _ => none⟩ pm' b o := fun b o k1 => by
    refine ⟨?_, k1.2⟩
    cases e : pm' b o with
    | none => rfl
    | some y => exact absurd k1.1 (hpmn b o (by rw [e]; simp))
  have hsome : ∀ x ∈ (open3 n0 rs).2.1, x.2 ≠ none := open3_some n0 rs
  have hobl : ∀ r, look none (objsFrom s n0 PL) r ≠ none → n0 ≤ r ∧ ∃ x, PL[r - n0]? = some x := fun r hr => by
    rw [look_objsFrom] at hr
    by_cases h1 : n0 ≤ r
    · rw [if_pos h1] at hr
      cases e : PL[r - n0]? with
      | none => rw [e] at hr; exact absurd rfl hr
      | some x => exact ⟨h1, x, rfl⟩
    · rw [if_neg h1] at hr; exact absurd rfl hr
  refine ⟨gn, pm', ⟨h.keep, by omega, fun k o o' hk hk' => ?_, fun b o hb => ⟨h.own b o (hpmn b o hb), h.low b o (hpmn b o hb)⟩, fun r q es d n hh => ?_, ?_, fun r hh => ?_, by rw [e2]; omega⟩⟩
  · have hklt : k < obs.length := (List.getElem?_eq_some_iff.1 hk).1
    obtain ⟨⟨t1, t2, t3, t4, t5⟩, ts⟩ := h.top k (by omega)
    obtain ⟨f1, f2, f3, f4, f5⟩ := hgn k [] k [] (hnmlt k [] (by omega))
    refine ⟨⟨f1.trans t1, f2.trans t2, f3.trans t3, f4.trans t4, f5.trans t5⟩, ?_⟩
    unfold St.shape at ts
    have := hoi k (by omega)
    rw [Nat.zero_add] at this
    rw [this, hk'] at ts
    simp only [baseOf, hk, Option.map_some, Option.some.injEq] at ts
    exact ts
  · -- a block
    rw [e1] at hh
    have hobj : (stO (objsFrom s n0 PL ++ obsO 0 obs')).obj r = if n0 ≤ r ∧ look none (objsFrom s n0 PL) r ≠ none then look none (objsFrom s n0 PL) r else obs'[r]? := by
      show look none (objsFrom s n0 PL ++ obsO 0 obs') r = _
      rw [e1] at hsome
      by_cases h1 : look none (objsFrom s n0 PL) r ≠ none
      · rw [look_append_some _ _ _ h1, if_pos ⟨(hobl r h1).1, h1⟩]
      · have h2 : look none (objsFrom s n0 PL) r = none := by
          cases e : look none (objsFrom s n0 PL) r with
          | none => rfl
          | some y => exact absurd (by rw [e]; simp) h1
        rw [look_append_none _ _ _ hsome h2, if_neg (fun hh => h1 hh.2), look_obsO, if_pos (Nat.zero_le _)]; rfl
    unfold St.at at hh
    rw [hobj] at hh
    by_cases hr : n0 ≤ r ∧ look none (objsFrom s n0 PL) r ≠ none
    · rw [if_pos hr] at hh
      rw [look_objsFrom, if_pos hr.1] at hh
      cases hi : PL[r - n0]? with
      | none => rw [hi] at hh; cases hh
      | some x =>
        obtain ⟨r1, p1, b1⟩ := x
        rw [hi] at hh
        cases hat : s.at r1 p1 with
        | none => simp [hat] at hh
        | some y =>
          obtain ⟨es1, d1, n1⟩ := y
          simp [hat] at hh
          have hat2 : s.at r1 (p1 ++ q) = some (es, d, n) := by
            unfold St.at at hat ⊢
            cases ho : s.obj r1 with
            | none => rw [ho] at hat; cases hat
            | some ob =>
              rw [ho] at hat
              dsimp only at hat ⊢
              rw [sub_append, hat]
              exact hh
          have hrr : n0 + (r - n0) = r := by omega
          have hn : ∀ q, nm r q = (r1, p1 ++ q) := fun q => by have := hnm (r - n0) r1 p1 q b1 hi; rwa [hrr] at this
          have hr1 : ¬ r1 < s.ng := by have := hrs _ (List.mem_of_getElem? hi); dsimp only at this; omega
          refine (h.blk _ _ _ _ _ hat2).rename (fun b o c k1 k2 => hok b o k1) (hgn r q r1 (p1 ++ q) (hn q)) (fun b o hb => ?_) (fun i j e v _ _ _ => ?_)
          · rw [hpmf b o _ _ hb hr1]
            have := findP_ok n0 hap q hi
            rw [hrr] at this
            exact this
          · have := hgn r (q ++ [(i, j)]) r1 (p1 ++ (q ++ [(i, j)])) (hn _)
            rwa [← List.append_assoc] at this
    · rw [if_neg hr] at hh
      cases ho : obs'[r]? with
      | none => rw [ho] at hh; cases hh
      | some o =>
        rw [ho] at hh
        have hrl : r < obs'.length := (List.getElem?_eq_some_iff.1 ho).1
        have hsr := hoi r (by omega)
        rw [Nat.zero_add] at hsr
        have hat : s.at r q = some (es, d, n) := by unfold St.at; rw [hsr, ho]; exact hh
        exact (h.blk _ _ _ _ _ hat).rename (fun b o c k1 k2 => hok b o k1) (hgn r q r q (hnmlt r q (by omega))) (fun b o hb => hpmg b o _ _ hb (by omega)) (fun i j e v _ _ _ => hgn r _ r _ (hnmlt r _ (by omega)))
  · -- the value
    have hk : ∀ b o c, okc (baseOf w0 ok pm0 g0 obs) pm b o → w.cell? ⟨b, o, none⟩ = some c → okc ⟨w0, ok, pm0, g0, fun _ => none⟩ pm' b o := fun b o c k1 _ => hok b o k1
    have hp : ∀ (i r : Nat) (p : Path) (b : Bool), PL[i]? = some (r, p, b) → (stO (open3 n0 rs).2.1).len (n0 + i) [] = s.len r p ∧ SameGh g gn r (n0 + i) p [] := fun i r p b hi => by
      have hn := hnm i r p [] b hi
      rw [List.append_nil] at hn
      refine ⟨?_, hgn _ _ _ _ hn⟩
      rw [e1]
      unfold St.len
      have hobj : (stO (objsFrom s n0 PL)).obj (n0 + i) = (s.at r p).map fun y => ⟨y.1, y.2.1, y.2.2, b⟩ := by
        have := look_objsFrom s n0 PL (n0 + i)
        rw [if_pos (by omega), show n0 + i - n0 = i by omega, hi] at this
        exact this
      show Option.map _ ((stO (objsFrom s n0 PL)).at (n0 + i) []) = _
      rw [show (stO (objsFrom s n0 PL)).at (n0 + i) [] = (match (stO (objsFrom s n0 PL)).obj (n0 + i) with | some o => sub o.deep o.sz o.es [] | none => none) from rfl, hobj]
      cases s.at r p with
      | none => rfl
      | some y => rfl
    obtain ⟨j1, j2⟩ := o3 hrows (g' := gn) (at' := (stO (open3 n0 rs).2.1).len) hk hp hl hx
    cases rs with
    | nil =>
      have : xs = [] := List.eq_nil_of_length_eq_zero (by rw [j1]; rfl)
      subst this
      exact .tup [] [] rfl (fun k v x hv => by simp at hv)
    | cons r0 rs0 =>
      cases rs0 with
      | nil =>
        have hx1 : xs.length = 1 := by rw [j1]; rfl
        cases xs with
        | nil => cases hx1
        | cons x xs1 =>
          cases xs1 with
          | cons y ys => simp at hx1
          | nil => exact j2 0 _ x rfl rfl
      | cons r1 rs1 =>
        have hx1 : xs.length = (openL open2 n0 (r0 :: r1 :: rs1)).1.length := j1
        cases xs with
        | nil => cases hx1
        | cons x xs1 =>
          cases xs1 with
          | nil => simp [openL] at hx1
          | cons y ys => exact .tup _ _ hx1 j2
  · rw [e1] at hh
    obtain ⟨h1, x, hx1⟩ := hobl r hh
    have := (List.getElem?_eq_some_iff.1 hx1).1
    rw [e2]; omega
end
end Ev
