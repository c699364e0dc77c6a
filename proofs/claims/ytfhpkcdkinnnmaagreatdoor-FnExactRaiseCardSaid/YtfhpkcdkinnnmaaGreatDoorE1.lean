/- The evaluator: what code comes to, told of trees of values with their owners, and what such a tree is in memory. -/
import Derived.Orders
import Derived.Below
import Derived.Laws.Sem
import Derived.Laws.Cells
import Derived.Laws.Entries
import Derived.Laws.IdiomCopy
import Derived.ChangeKeysEq
import Derived.Laws.MakeOwn
namespace Ev
open Go Go.RowKit

abbrev Path := List (Nat × Nat)
/-- A value as the evaluator knows it. sc: whole in itself; sl: a slice within a tree; sh: a slice that is only read; shp: the place of cells that are only read; own: in a cell, a slice that has its block alone; hdr: the whole slice at a place; part: a part of it; ptr: a cell of it; bxr: the place of cells that are only read and may name places. -/
inductive V where
  | sc (x : Value)
  | sl (n : Nat) (es : List (List V))
  | sh (n : Nat) (es : List (List V))
  | shp (cs : List V)
  | own (d : Bool) (n : Nat) (es : List (List V))
  | hdr (r : Nat) (p : Path)
  | part (r : Nat) (p : Path) (o len : Nat)
  | ptr (r : Nat) (p : Path) (i j : Nat)
  | fn (f : Nat) (caps : List V)
  | agg (vs : List V)
  | tup (vs : List V)
  | obx (row : List V)
  | bxr (vs : List V)
  | dead

/-- An object: its elements' cells, whether slices within are its own, how many cells an element has. -/
structure Ob where
  es : List (List V)
  deep : Bool
  sz : Nat
  bx : Bool

structure St where
  tm : List (Nat × V)
  ob : List (Nat × Option Ob)
  nx : Nat
  fz : Nat
  ng : Nat

def look {α : Type} (z : α) : List (Nat × α) → Nat → α
  | [], _ => z
  | (u, v) :: l, t => match Nat.beq u t with
    | true => v
    | false => look z l t

def St.get (s : St) (t : Nat) : V := look .dead s.tm t
def St.obj (s : St) (r : Nat) : Option Ob := look none s.ob r

/-- What stands at a path within an object. -/
def sub (d : Bool) (n : Nat) (es : List (List V)) : Path → Option (List (List V) × Bool × Nat)
  | [] => some (es, d, n)
  | (i, j) :: p => match es[i]? with
    | some c => match c[j]? with
      | some (.own d' n' e) => sub d' n' e p
      | some (.sl n' e) => match d with
        | true => sub true n' e p
        | false => none
      | _ => none
    | none => none

def St.at (s : St) (r : Nat) (p : Path) : Option (List (List V) × Bool × Nat) :=
  match s.obj r with
  | some o => sub o.deep o.sz o.es p
  | none => none

/-- The content at a path, turned by f. -/
def putAt (f : List (List V) → List (List V)) (es : List (List V)) : Path → List (List V)
  | [] => f es
  | (i, j) :: p => match es[i]? with
    | some c => match c[j]? with
      | some (.own d n e) => es.set i (c.set j (.own d n (putAt f e p)))
      | some (.sl n e) => es.set i (c.set j (.sl n (putAt f e p)))
      | _ => es
    | none => es

def St.val (s : St) : Operand → V
  | .tmp t => s.get t
  | .const v => .sc v
  | .global _ => .dead
  | .func f => .fn f []

-- what is so in memory
/-- The real places of the evaluator's places. -/
structure Gh where
  blk : Nat → Path → Nat
  off : Nat → Path → Nat
  sz : Nat → Path → Nat
  cap : Nat → Path → Nat
  nl : Nat → Path → Bool

/-- c is the slice from o on, of len elements, at a place. -/
def RefHdr (g : Gh) (r : Nat) (p : Path) (o len : Nat) (c : Value) : Prop :=
  (g.nl r p = true ∧ c = .slice none 0 0 ∧ len = 0) ∨
  (g.nl r p = false ∧ ∃ a cap', c = .slice (some a) len cap' ∧ len ≤ cap' ∧ (0 < len → a = ⟨g.blk r p, g.off r p + o * g.sz r p, none⟩) ∧ (o = 0 → a = ⟨g.blk r p, g.off r p, none⟩ ∧ cap' = g.cap r p))

def V.leafy : V → Bool
  | .sc _ => false
  | .sl _ _ => false
  | .own _ _ _ => false
  | .sh _ _ => false
  | _ => true
/-- A tree that is only read. -/
inductive SR (w : World) (ok : Nat → Nat → Prop) : V → Value → Prop
  | sc (x : Value) : SR w ok (.sc x) x
  | nil (n : Nat) (A : Option Addr) (cap : Nat) : SR w ok (.sl n []) (.slice A 0 cap)
  | sl (s : Nat) (es : List (List V)) (b o cap : Nat) (vals : Nat → Nat → Value) (hs : ∀ (i : Nat) (e : List V), es[i]? = some e → e.length = s)
      (h1 : ∀ (i j : Nat) (e : List V) (v : V), es[i]? = some e → e[j]? = some v → ok b (o + i * s + j) ∧ w.cell? ⟨b, o + i * s + j, none⟩ = some (vals i j))
      (h2 : ∀ (i j : Nat) (e : List V) (v : V), es[i]? = some e → e[j]? = some v → SR w ok v (vals i j)) (hc : es.length ≤ cap) : SR w ok (.sl s es) (.slice (some ⟨b, o, none⟩) es.length cap)
  | own (d : Bool) (n : Nat) (es : List (List V)) (c : Value) (h : SR w ok (.sl n es) c) : SR w ok (.own d n es) c
  | sh (n : Nat) (es : List (List V)) (c : Value) (h : SR w ok (.sl n es) c) : SR w ok (.sh n es) c
  | any (v : V) (c : Value) (h : v.leafy = true) : SR w ok v c

/-- A value of a temporary. at_: the length of what stands at a place. -/
inductive VR (w : World) (ok : Nat → Nat → Prop) (g : Gh) (at_ : Nat → Path → Option Nat) : V → Value → Prop
  | sc (x : Value) : VR w ok g at_ (.sc x) x
  | sh (n : Nat) (es : List (List V)) (c : Value) (h : SR w ok (.sl n es) c) : VR w ok g at_ (.sh n es) c
  | shp (cs : List V) (b o : Nat) (vals : Nat → Value) (h1 : ∀ (j : Nat) (v : V), cs[j]? = some v → ok b (o + j) ∧ w.cell? ⟨b, o + j, none⟩ = some (vals j))
      (h2 : ∀ (j : Nat) (v : V), cs[j]? = some v → SR w ok v (vals j)) : VR w ok g at_ (.shp cs) (.pointer (some ⟨b, o, none⟩))
  | hdr (r : Nat) (p : Path) (n : Nat) (c : Value) (ha : at_ r p = some n) (h : RefHdr g r p 0 n c) : VR w ok g at_ (.hdr r p) c
  | part (r : Nat) (p : Path) (o len n : Nat) (c : Value) (ha : at_ r p = some n) (hl : o + len ≤ n) (h : RefHdr g r p o len c) : VR w ok g at_ (.part r p o len) c
  | ptr (r : Nat) (p : Path) (i j n : Nat) (ha : at_ r p = some n) (hn : g.nl r p = false) : VR w ok g at_ (.ptr r p i j) (.pointer (some ⟨g.blk r p, g.off r p + i * g.sz r p + j, none⟩))
  | fn (f : Nat) (caps : List V) (xs : List Value) (hl : xs.length = caps.length) (h : ∀ (k : Nat) (v : V) (x : Value), caps[k]? = some v → xs[k]? = some x → VR w ok g at_ v x) : VR w ok g at_ (.fn f caps) (.func (.func f) #[] xs.toArray)
  | agg (vs : List V) (xs : List Value) (hl : xs.length = vs.length) (h : ∀ (k : Nat) (v : V) (x : Value), vs[k]? = some v → xs[k]? = some x → VR w ok g at_ v x) : VR w ok g at_ (.agg vs) (.agg xs.toArray)
  | tup (vs : List V) (xs : List Value) (hl : xs.length = vs.length) (h : ∀ (k : Nat) (v : V) (x : Value), vs[k]? = some v → xs[k]? = some x → VR w ok g at_ v x) : VR w ok g at_ (.tup vs) (.tuple xs.toArray)
  | bxr (vs : List V) (b o : Nat) (xs : Nat → Value) (h1 : ∀ (j : Nat) (v : V), vs[j]? = some v → ok b (o + j) ∧ w.cell? ⟨b, o + j, none⟩ = some (xs j)) (h : ∀ (j : Nat) (v : V), vs[j]? = some v → VR w ok g at_ v (xs j)) : VR w ok g at_ (.bxr vs) (.pointer (some ⟨b, o, none⟩))
  | dead (c : Value) : VR w ok g at_ .dead c

/-- No place of its own is named. -/
def noAt : Nat → Path → Option Nat := fun _ _ => none
def noGh : Gh := ⟨fun _ _ => 0, fun _ _ => 0, fun _ _ => 0, fun _ _ => 0, fun _ _ => false⟩

/-- A value in a cell j of element i at a place whose slices within are its own (d) or shared. -/
def CR (w : World) (ok : Nat → Nat → Prop) (g : Gh) (r : Nat) (p : Path) (d : Bool) (i j : Nat) : V → Value → Prop
  | .own _ _ es, c => RefHdr g r (p ++ [(i, j)]) 0 es.length c
  | .sl n es, c => match d with
    | true => RefHdr g r (p ++ [(i, j)]) 0 es.length c
    | false => SR w ok (.sl n es) c
  | v, c => VR w ok noGh noAt v c

def Mine (w : World) (pm : Nat → Nat → Option (Nat × Path)) (r : Nat) (p : Path) (b o : Nat) : Prop :=
  pm b o = some (r, p) ∧ w.frozen? ⟨b, o, none⟩ = false ∧ (w.cell? ⟨b, o, none⟩).isSome = true

/-- The block of a place. -/
structure BR (w : World) (ok : Nat → Nat → Prop) (g : Gh) (pm : Nat → Nat → Option (Nat × Path)) (r : Nat) (p : Path) (es : List (List V)) (d : Bool) (n : Nat) : Prop where
  siz : g.sz r p = n
  nil : g.nl r p = true → es = []
  len : es.length ≤ g.cap r p
  row : ∀ (i : Nat) (e : List V), es[i]? = some e → e.length = g.sz r p
  mine : g.nl r p = false → ∀ k, k < g.cap r p * g.sz r p → Mine w pm r p (g.blk r p) (g.off r p + k)
  cell : ∀ (i j : Nat) (e : List V) (v : V), es[i]? = some e → e[j]? = some v → ∃ c, w.cell? ⟨g.blk r p, g.off r p + i * g.sz r p + j, none⟩ = some c ∧ CR w ok g r p d i j v c

/-- What the call began with is as it was, but for what it was given. -/
structure Keeps (pm0 : Nat → Nat → Option (Nat × Path)) (w0 w : World) : Prop where
  os : w.os = w0.os
  tape : w.tape = w0.tape
  output : w.output = w0.output
  size : w0.heap.size ≤ w.heap.size
  block : ∀ b, b < w0.heap.size → (∀ o, pm0 b o = none) → w.heap[b]? = w0.heap[b]?
  cell : ∀ b o, b < w0.heap.size → pm0 b o = none → w.cell? ⟨b, o, none⟩ = w0.cell? ⟨b, o, none⟩ ∧ w.frozen? ⟨b, o, none⟩ = w0.frozen? ⟨b, o, none⟩

/-- What a call began with: the world, what may be read, what is given and where it stands. -/
structure Base where
  w0 : World
  ok0 : Nat → Nat → Prop
  pm0 : Nat → Nat → Option (Nat × Path)
  g0 : Gh
  top : Nat → Option (Bool × Bool × Nat × Nat)

/-- What may be read and is nobody's. -/
def okc (β : Base) (pm : Nat → Nat → Option (Nat × Path)) : Nat → Nat → Prop := fun b o => pm b o = none ∧ (β.ok0 b o ∨ β.pm0 b o ≠ none ∨ β.w0.heap.size ≤ b)

def St.len (s : St) : Nat → Path → Option Nat := fun r p => (s.at r p).map fun x => x.1.length
def St.shape (s : St) (k : Nat) : Option (Bool × Bool × Nat × Nat) := (s.obj k).map fun o => (o.deep, o.bx, o.sz, o.es.length)
/-- Two places are one in memory. -/
def SameGh (g g' : Gh) (r r' : Nat) (p p' : Path) : Prop := g'.blk r' p' = g.blk r p ∧ g'.off r' p' = g.off r p ∧ g'.sz r' p' = g.sz r p ∧ g'.cap r' p' = g.cap r p ∧ g'.nl r' p' = g.nl r p

/-- The evaluator's state tells the real one. -/
structure R (β : Base) (s : St) (a : Act) (w : World) (g : Gh) (pm : Nat → Nat → Option (Nat × Path)) : Prop where
  defers : a.defers = []
  fsz : a.tmps.size = s.fz
  tm : ∀ t, VR w (okc β pm) g s.len (s.get t) (a.tmps.getD t undef)
  blk : ∀ r p es d n, s.at r p = some (es, d, n) → BR w (okc β pm) g pm r p es d n
  fresh : ∀ r, s.nx ≤ r → s.obj r = none
  own : ∀ b o, pm b o ≠ none → β.pm0 b o ≠ none ∨ β.w0.heap.size ≤ b
  keep : Keeps β.pm0 β.w0 w
  low : ∀ b o, pm b o ≠ none → b < w.heap.size
  ngnx : s.ng ≤ s.nx
  top : ∀ k, k < s.ng → SameGh β.g0 g k k [] [] ∧ s.shape k = β.top k
end Ev
namespace Ev
open Go Go.RowKit

theorem SR.mono {w w' : World} {ok ok' : Nat → Nat → Prop} (hk : ∀ b o c, ok b o → w.cell? ⟨b, o, none⟩ = some c → ok' b o ∧ w'.cell? ⟨b, o, none⟩ = some c) {v : V} {x : Value} (h : SR w ok v x) : SR w' ok' v x := by
  induction h with
  | sc x => exact .sc x
  | nil n A cap => exact .nil n A cap
  | sl s es b o cap vals hs h1 _ hc ih =>
    exact .sl s es b o cap vals hs (fun i j e v he hv => hk _ _ _ (h1 i j e v he hv).1 (h1 i j e v he hv).2) ih hc
  | own d n es c _ ih => exact .own d n es c ih
  | sh n es c _ ih => exact .sh n es c ih
  | any v c h => exact .any v c h

/-- The same places, as a value names them. -/
theorem VR.mono {w w' : World} {ok ok' : Nat → Nat → Prop} {g g' : Gh} {at_ at' : Nat → Path → Option Nat} (hk : ∀ b o c, ok b o → w.cell? ⟨b, o, none⟩ = some c → ok' b o ∧ w'.cell? ⟨b, o, none⟩ = some c)
    (ha : ∀ r p n, at_ r p = some n → at' r p = some n ∧ g'.blk r p = g.blk r p ∧ g'.off r p = g.off r p ∧ g'.sz r p = g.sz r p ∧ g'.cap r p = g.cap r p ∧ g'.nl r p = g.nl r p)
    {v : V} {x : Value} (h : VR w ok g at_ v x) : VR w' ok' g' at' v x := by
  induction h with
  | sc x => exact .sc x
  | sh n es c h => exact .sh n es c (h.mono hk)
  | shp cs b o vals h1 h2 => exact .shp cs b o vals (fun j v hv => hk _ _ _ (h1 j v hv).1 (h1 j v hv).2) (fun j v hv => (h2 j v hv).mono hk)
  | hdr r p n c hn h =>
    obtain ⟨e, e1, e2, e3, e4, e5⟩ := ha r p n hn
    refine .hdr r p n c e ?_
    unfold RefHdr at h ⊢; rw [e1, e2, e3, e4, e5]; exact h
  | part r p o len n c hn hl h =>
    obtain ⟨e, e1, e2, e3, e4, e5⟩ := ha r p n hn
    refine .part r p o len n c e hl ?_
    unfold RefHdr at h ⊢; rw [e1, e2, e3, e4, e5]; exact h
  | ptr r p i j n hn hl =>
    obtain ⟨e, e1, e2, e3, e4, e5⟩ := ha r p n hn
    have := VR.ptr (w := w') (ok := ok') (g := g') (at_ := at') r p i j n e (e5 ▸ hl)
    rw [e1, e2, e3] at this; exact this
  | fn f caps xs hl _ ih => exact .fn f caps xs hl ih
  | agg vs xs hl _ ih => exact .agg vs xs hl ih
  | tup vs xs hl _ ih => exact .tup vs xs hl ih
  | bxr vs b o xs h1 _ ih => exact .bxr vs b o xs (fun j v hv => hk _ _ _ (h1 j v hv).1 (h1 j v hv).2) ih
  | dead c => exact .dead c

/-- A value that names no place of its own is so wherever. -/
theorem VR.bare {w w' : World} {ok ok' : Nat → Nat → Prop} {g : Gh} {at_ : Nat → Path → Option Nat} (hk : ∀ b o c, ok b o → w.cell? ⟨b, o, none⟩ = some c → ok' b o ∧ w'.cell? ⟨b, o, none⟩ = some c) {v : V} {x : Value} (h : VR w ok noGh noAt v x) : VR w' ok' g at_ v x :=
  h.mono hk (fun r p n h => by cases h)

theorem RefHdr.as {g g' : Gh} {r r' : Nat} {p p' : Path} {o n : Nat} {c : Value} (h : RefHdr g r p o n c) (e1 : g'.blk r' p' = g.blk r p) (e2 : g'.off r' p' = g.off r p) (e3 : g'.sz r' p' = g.sz r p) (e4 : g'.cap r' p' = g.cap r p) (e5 : g'.nl r' p' = g.nl r p) : RefHdr g' r' p' o n c := by
  unfold RefHdr at h ⊢; rw [e1, e2, e3, e4, e5]; exact h

theorem RefHdr.same {g g' : Gh} {r r' : Nat} {p p' : Path} {o n : Nat} {c : Value} (h : RefHdr g r p o n c) (e : SameGh g g' r r' p p') : RefHdr g' r' p' o n c := h.as e.1 e.2.1 e.2.2.1 e.2.2.2.1 e.2.2.2.2

theorem CR.mono {w w' : World} {ok ok' : Nat → Nat → Prop} {g g' : Gh} {r r' : Nat} {p p' : Path} {d : Bool} {i j : Nat} (hk : ∀ b o c, ok b o → w.cell? ⟨b, o, none⟩ = some c → ok' b o ∧ w'.cell? ⟨b, o, none⟩ = some c) {v : V} {c : Value}
    (hg : (∃ d' n es, v = .own d' n es) ∨ (∃ n es, v = .sl n es ∧ d = true) → SameGh g g' r r' (p ++ [(i, j)]) (p' ++ [(i, j)]))
    (h : CR w ok g r p d i j v c) : CR w' ok' g' r' p' d i j v c := by
  cases v with
  | own d' n es => exact RefHdr.same (show RefHdr g _ _ _ _ _ from h) (hg (.inl ⟨_, _, _, rfl⟩))
  | sl n es =>
    cases d with
    | true => exact RefHdr.same (show RefHdr g _ _ _ _ _ from h) (hg (.inr ⟨_, _, rfl, rfl⟩))
    | false => exact SR.mono hk (show SR w ok _ _ from h)
  | _ => exact VR.bare hk (show VR w ok noGh noAt _ _ from h)

-- look
theorem look_cons_eq {α : Type} (z : α) (t : Nat) (v : α) (l : List (Nat × α)) : look z ((t, v) :: l) t = v := by
  show (match Nat.beq t t with | true => v | false => look z l t) = v
  rw [Nat.beq_refl]
theorem look_cons_ne {α : Type} (z : α) {t u : Nat} (v : α) (l : List (Nat × α)) (h : u ≠ t) : look z ((u, v) :: l) t = look z l t := by
  show (match Nat.beq u t with | true => v | false => look z l t) = look z l t
  have : Nat.beq u t = false := by
    cases e : Nat.beq u t with
    | false => rfl
    | true => exact absurd (Nat.eq_of_beq_eq_true e) h
  rw [this]
theorem look_cons {α : Type} (z : α) (t u : Nat) (v : α) (l : List (Nat × α)) : look z ((u, v) :: l) t = if u = t then v else look z l t := by
  by_cases h : u = t
  · subst h; rw [look_cons_eq, if_pos rfl]
  · rw [look_cons_ne z v l h, if_neg h]
theorem look_map {α β : Type} (z : α) (y : β) (f : α → β) (hz : f z = y) (l : List (Nat × α)) (t : Nat) : look y (l.map fun x => (x.1, f x.2)) t = f (look z l t) := by
  induction l with
  | nil => exact hz.symm
  | cons x l ih =>
    obtain ⟨u, v⟩ := x
    rw [List.map_cons, look_cons, look_cons]
    by_cases h : u = t
    · rw [if_pos h, if_pos h]
    · rw [if_neg h, if_neg h]; exact ih

-- sub
theorem sub_nil (d : Bool) (n : Nat) (es : List (List V)) : sub d n es [] = some (es, d, n) := rfl
theorem sub_append (d : Bool) (n : Nat) (es : List (List V)) (p q : Path) : sub d n es (p ++ q) = (sub d n es p).bind fun x => sub x.2.1 x.2.2 x.1 q := by
  induction p generalizing d n es with
  | nil => rfl
  | cons x p ih =>
    obtain ⟨i, j⟩ := x
    show sub d n es ((i, j) :: (p ++ q)) = _
    simp only [sub]
    cases es[i]? with
    | none => rfl
    | some c =>
      dsimp only
      cases c[j]? with
      | none => rfl
      | some v =>
        cases v with
        | own d' n' e => exact ih d' n' e
        | sl n' e => cases d with
          | true => exact ih true n' e
          | false => rfl
        | _ => rfl
/-- The place of a cell's own slice. -/
theorem sub_snoc {d : Bool} {n : Nat} {es : List (List V)} {p : Path} {e : List (List V)} {d1 : Bool} {n1 : Nat} (h : sub d n es p = some (e, d1, n1)) (i j : Nat) : sub d n es (p ++ [(i, j)]) = sub d1 n1 e [(i, j)] := by
  rw [sub_append, h]; rfl
end Ev
namespace Ev
open Go Go.RowKit

inductive Kn where
  | int (k : IntKind) | bool | str | slice (e : TypeId) | struct (fs : List (Nat × Nat × Bool)) | other (agg : Bool)
structure TyI where
  size : Nat
  kn : Kn
  zero : List Value
  bytes : Nat
def TyI.agg (i : TyI) : Bool :=
  match i.kn with
  | .struct _ => true
  | .other b => b
  | _ => false
def isAgg (P : Program) (t : TypeId) : Bool :=
  match P.underlying t with
  | some (.struct _) => true
  | some (.array _ _) => true
  | _ => false
def szOf (P : Program) (t : TypeId) : Nat :=
  match P.info? t with
  | some i => i.size
  | none => 0
def knOf (P : Program) : TypeDesc → Kn
  | .int k => .int k
  | .bool => .bool
  | .string => .str
  | .slice e => .slice e
  | .struct fs => .struct (fs.toList.map fun f => (f.offset, szOf P f.type, isAgg P f.type))
  | .array _ _ => .other true
  | _ => .other false
/-- What the program's table says of a type. -/
def tyOf (P : Program) (t : TypeId) : Option TyI :=
  match P.info? t with
  | some i => match P.underlying t with
    | some d => match i.zero with
      | some z => some ⟨i.size, knOf P d, z.cells.toList, i.bytes⟩
      | none => none
    | none => none
  | none => none

/-- What a function's calls come to is told from outside: a bind that is not looked into. -/
theorem bnd_ex : Nonempty {f : ∀ {α β : Type}, Option α → (α → Option β) → Option β // ∀ (α β : Type) (a : Option α) (k : α → Option β), f a k = a.bind k} := ⟨⟨fun {_ _} a k => a.bind k, fun _ _ _ _ => rfl⟩⟩
noncomputable def bnd {α β : Type} (a : Option α) (k : α → Option β) : Option β := (Classical.choice bnd_ex).1 a k
theorem bnd_eq {α β : Type} (a : Option α) (k : α → Option β) : bnd a k = a.bind k := (Classical.choice bnd_ex).2 α β a k

abbrev Res := Option (List V)

structure Ctx where
  P : Program
  ty : TypeId → Option TyI
  call : Nat → List V → Res
  k : Nat
  keep : Nat → List Nat

def takeN : Nat → List V → Option (List V)
  | 0, _ => some []
  | n + 1, v :: vs => match takeN n vs with
    | some l => some (v :: l)
    | none => none
  | _ + 1, [] => none

def shView : V → V
  | .sc x => .sc x
  | .sl n es => .sh n es
  | .own _ n es => .sh n es
  | .sh n es => .sh n es
  | _ => .dead
def ownView (r : Nat) (p : Path) (d : Bool) (i j : Nat) : V → V
  | .own _ _ _ => .hdr r (p ++ [(i, j)])
  | .sl n es => match d with
    | true => .hdr r (p ++ [(i, j)])
    | false => .sh n es
  | v => v
def viewL (r : Nat) (p : Path) (d : Bool) (i : Nat) : Nat → List V → List V
  | _, [] => []
  | j, v :: vs => ownView r p d i j v :: viewL r p d i (j + 1) vs
def mk (i : TyI) (cs : List V) : Option V :=
  match i.agg with
  | true => some (.agg cs)
  | false => match cs with
    | [v] => some v
    | _ => none

def constV : Value → V
  | .agg cs => .agg (cs.toList.map .sc)
  | x => .sc x
def St.opd (s : St) : Operand → V
  | .tmp t => s.get t
  | .const v => constV v
  | .global _ => .dead
  | .func f => .fn f []

def evLoad (C : Ctx) (s : St) (t : TypeId) (a : V) : Option V :=
  match C.ty t with
  | some i => match a with
    | .shp cs => match takeN i.size cs with
      | some l => mk i (l.map shView)
      | none => none
    | .bxr cs => match takeN i.size cs with
      | some l => mk i l
      | none => none
    | .ptr r p k j => match s.at r p with
      | some (es, d, _) => match es[k]? with
        | some cs => match takeN i.size (cs.drop j) with
          | some l => mk i (viewL r p d k j l)
          | none => none
        | none => none
      | none => none
    | _ => none
  | none => none

def evIndexAddr (C : Ctx) (s : St) (t : TypeId) (x ix : V) : Option V :=
  match C.ty t with
  | some ⟨_, .slice e, _, _⟩ => match C.ty e with
    | some ei => match ix with
      | .sc (.int _ i) => match decide (0 ≤ i) with
        | true => match x with
          | .sh n es => match Nat.beq n ei.size with
            | true => match es[i.toNat]? with
              | some cs => some (.shp cs)
              | none => none
            | false => none
          | .hdr r p => match s.at r p with
            | some (es, _, n) => match Nat.beq n ei.size with
              | true => match es[i.toNat]? with
                | some _ => some (.ptr r p i.toNat 0)
                | none => none
              | false => none
            | none => none
          | .part r p o len => match decide (i < (len : Int)) with
            | true => match s.at r p with
              | some (es, _, n) => match Nat.beq n ei.size with
                | true => match es[o + i.toNat]? with
                  | some _ => some (.ptr r p (o + i.toNat) 0)
                  | none => none
                | false => none
              | none => none
            | false => none
          | _ => none
        | false => none
      | _ => none
    | none => none
  | _ => none

def evFieldAddr (C : Ctx) (t : TypeId) (f : Nat) (x : V) : Option V :=
  match C.ty t with
  | some ⟨_, .struct fs, _, _⟩ => match fs[f]? with
    | some (o, _ + 1, _) => match x with
      | .shp cs => some (.shp (cs.drop o))
      | .ptr r p i j => some (.ptr r p i (j + o))
      | .bxr cs => some (.bxr (cs.drop o))
      | _ => none
    | _ => none
  | _ => none

def byteAt (s : ByteArray) (i : Int) : Int := ((s.data[i.toNat]?).getD 0).toNat
def evIndex (C : Ctx) (t : TypeId) (x ix : V) : Option V :=
  match C.ty t with
  | some ⟨_, .str, _, _⟩ => match x with
    | .sc (.string s) => match ix with
      | .sc (.int _ i) => match decide (0 ≤ i) && decide (i < (s.size : Int)) with
        | true => some (.sc (.int .u8 (byteAt s i)))
        | false => none
      | _ => none
    | _ => none
  | _ => none

/-- The bounds of a part: from, behind. -/
def evBounds (s : St) (len : Nat) (lo hi : Option Operand) : Option (Nat × Nat) :=
  match lo with
  | none => match hi with
    | none => some (0, len)
    | some h => match s.opd h with
      | .sc (.int _ h) => match decide (0 ≤ h) && decide (h ≤ (len : Int)) with
        | true => some (0, h.toNat)
        | false => none
      | _ => none
  | some l => match s.opd l with
    | .sc (.int _ l) => match hi with
      | none => match decide (0 ≤ l) && decide (l ≤ (len : Int)) with
        | true => some (l.toNat, len)
        | false => none
      | some h => match s.opd h with
        | .sc (.int _ h) => match decide (0 ≤ l) && (decide (l ≤ h) && decide (h ≤ (len : Int))) with
          | true => some (l.toNat, h.toNat)
          | false => none
        | _ => none
    | _ => none
def evSlice (C : Ctx) (s : St) (t : TypeId) (x : V) (lo hi : Option Operand) : Option V :=
  match C.ty t with
  | some ⟨_, .str, _, _⟩ => match x with
    | .sc (.string b) => match evBounds s b.size lo hi with
      | some (l, h) => some (.sc (.string (b.extract l h)))
      | none => none
    | _ => none
  | some ⟨_, .slice e, _, _⟩ => match C.ty e with
    | some ei => match x with
      | .sh n es => match Nat.beq n ei.size with
        | true => match evBounds s es.length lo hi with
          | some (l, h) => some (.sh n ((es.take h).drop l))
          | none => none
        | false => none
      | .hdr r p => match s.at r p with
        | some (es, _, n) => match Nat.beq n ei.size with
          | true => match evBounds s es.length lo hi with
            | some (l, h) => some (.part r p l (h - l))
            | none => none
          | false => none
        | none => none
      | .part r p o len => match s.at r p with
        | some (_, _, n) => match Nat.beq n ei.size with
          | true => match evBounds s len lo hi with
            | some (l, h) => some (.part r p (o + l) (h - l))
            | none => none
          | false => none
        | none => none
      | _ => none
    | none => none
  | _ => none

def evLen (s : St) : V → Option Nat
  | .sc (.slice none 0 0) => some 0
  | .sh _ es => some es.length
  | .hdr r p => match s.at r p with
    | some (es, _, _) => some es.length
    | none => none
  | .part _ _ _ len => some len
  | _ => none

def sameK (a b : IntKind) : Bool := decide (a = b)
def evBin (op : BinOp) (x y : V) : Option V :=
  match x, y with
  | .sc (.int k a), .sc (.int l b) =>
    match op with
    | .shl => match decide (0 ≤ b) with
      | true => some (.sc (.int k (k.wrap (a * 2 ^ (min b.toNat k.bits)))))
      | false => none
    | .shr => match decide (0 ≤ b) with
      | true => some (.sc (.int k (a.fdiv (2 ^ (min b.toNat k.bits)))))
      | false => none
    | _ => match sameK k l with
      | true => match op with
        | .add => some (.sc (.int k (k.wrap (a + b))))
        | .sub => some (.sc (.int k (k.wrap (a - b))))
        | .mul => some (.sc (.int k (k.wrap (a * b))))
        | .quo => match b == 0 with
          | false => some (.sc (.int k (k.wrap (a.tdiv b))))
          | true => none
        | .rem => match b == 0 with
          | false => some (.sc (.int k (a.tmod b)))
          | true => none
        | .and => some (.sc (.int k (k.wrap (BitVec.ofInt k.bits a &&& BitVec.ofInt k.bits b).toNat)))
        | .or => some (.sc (.int k (k.wrap (BitVec.ofInt k.bits a ||| BitVec.ofInt k.bits b).toNat)))
        | .xor => some (.sc (.int k (k.wrap (BitVec.ofInt k.bits a ^^^ BitVec.ofInt k.bits b).toNat)))
        | .andNot => some (.sc (.int k (k.wrap (BitVec.ofInt k.bits a &&& ~~~BitVec.ofInt k.bits b).toNat)))
        | .eql => some (.sc (.bool (a == b)))
        | .neq => some (.sc (.bool (a != b)))
        | .lss => some (.sc (.bool (decide (a < b))))
        | .leq => some (.sc (.bool (decide (a ≤ b))))
        | .gtr => some (.sc (.bool (decide (a > b))))
        | .geq => some (.sc (.bool (decide (a ≥ b))))
        | _ => none
      | false => none
  | .sc (.string a), .sc (.string b) =>
    match op with
    | .add => match decide (a.size + b.size ≤ 9223372036854775807) with
      | true => some (.sc (.string (a ++ b)))
      | false => none
    | .eql => some (.sc (.bool (a.toList == b.toList)))
    | .neq => some (.sc (.bool (!(a.toList == b.toList))))
    | _ => none
  | _, _ => none
def evUn (op : UnOp) (x : V) : Option V :=
  match op, x with
  | .not, .sc (.bool b) => some (.sc (.bool (!b)))
  | .neg, .sc (.int k n) => some (.sc (.int k (k.wrap (0 - n))))
  | _, _ => none
def evConv (C : Ctx) (a b : TypeId) (x : V) : Option V :=
  match C.ty a, C.ty b, x with
  | some _, some ⟨_, .int k, _, _⟩, .sc (.int _ n) => some (.sc (.int k (k.wrap n)))
  | some _, some ⟨_, .str, _, _⟩, .sc (.string s) => some (.sc (.string s))
  | _, _, _ => none
def evPick (c a b : V) : Option V :=
  match c with
  | .sc (.bool t) => match a, b with
    | .sc (.int k x), .sc (.int l y) => match sameK k l with
      | true => some (.sc (.int k (bif t then x else y)))
      | false => none
    | .sc (.bool x), .sc (.bool y) => some (.sc (.bool (bif t then x else y)))
    | .sc (.string x), .sc (.string y) => some (.sc (.string (bif t then x else y)))
    | _, _ => none
  | _ => none

/-- The operations that turn nothing. -/
def evV (C : Ctx) (s : St) (o : Oper) : Option V :=
  match o.op with
  | .move x => some (s.opd x)
  | .assign x => some (s.opd x)
  | .pick c a b => evPick (s.opd c) (s.opd a) (s.opd b)
  | .load t a => evLoad C s t (s.opd a)
  | .indexAddr t x i => evIndexAddr C s t (s.opd x) (s.opd i)
  | .fieldAddr t x f => evFieldAddr C t f (s.opd x)
  | .index t x i => evIndex C t (s.opd x) (s.opd i)
  | .slice t x lo hi none => evSlice C s t (s.opd x) lo hi
  | .binOp op _ x y _ => evBin op (s.opd x) (s.opd y)
  | .unOp op _ x => evUn op (s.opd x)
  | .convert a b x => evConv C a b (s.opd x)
  | .extract x i => match s.opd x with
    | .tup vs => vs[i]?
    | _ => none
  | .makeFunc fn fs cs => match fn, fs.toList with
    | .func f, [] => some (.fn f (cs.toList.map s.opd))
    | _, _ => none
  | .call c => match c.callee with
    | .builtin .len => match c.args.toList, c.argTypes.toList with
      | [x], [t] => match C.ty t with
        | some ⟨_, .str, _, _⟩ => match s.opd x with
          | .sc (.string b) => some (.sc (.int .i64 b.size))
          | _ => none
        | some ⟨_, .slice _, _, _⟩ => match evLen s (s.opd x) with
          | some n => some (.sc (.int .i64 n))
          | none => none
        | _ => none
      | _, _ => none
    | _ => none
  | _ => none
end Ev
namespace Ev
open Go Go.RowKit
set_option linter.unusedVariables false
set_option linter.unusedSimpArgs false

theorem ty_info {P : Program} {t : TypeId} {i : TyI} (h : tyOf P t = some i) : ∃ info d z, P.info? t = some info ∧ P.underlying t = some d ∧ info.zero = some z ∧ i = ⟨info.size, knOf P d, z.cells.toList, info.bytes⟩ := by
  unfold tyOf at h
  cases h1 : P.info? t with
  | none => rw [h1] at h; cases h
  | some info =>
    rw [h1] at h
    cases h2 : P.underlying t with
    | none => rw [h2] at h; cases h
    | some d =>
      rw [h2] at h
      dsimp only at h
      cases h3 : info.zero with
      | none => rw [h3] at h; cases h
      | some z => rw [h3] at h; exact ⟨info, d, z, rfl, rfl, h3, (Option.some.inj h).symm⟩
theorem run_size {P : Program} {t : TypeId} {i : TypeInfo} (h : P.info? t = some i) (w : World) : (Go.sizeOf t).run P w = .ok i.size w := by
  simp [Go.sizeOf, run_typeInfo w h]
theorem szOf_eq {P : Program} {t : TypeId} {i : TypeInfo} (h : P.info? t = some i) : szOf P t = i.size := by unfold szOf; rw [h]
theorem run_isAgg {P : Program} {t : TypeId} {d : TypeDesc} (h : P.underlying t = some d) (w : World) : (Go.isAgg t).run P w = .ok (Ev.isAgg P t) w := by
  unfold Ev.isAgg Go.isAgg
  simp only [Sem.run_bind, run_underlying h, Result.andThen_ok, h]
  cases d <;> rfl
theorem agg_eq {P : Program} {t : TypeId} {d : TypeDesc} (h : P.underlying t = some d) (a b : Nat) (z : List Value) : (TyI.mk a (knOf P d) z b).agg = Ev.isAgg P t := by
  unfold Ev.isAgg TyI.agg knOf
  rw [h]
  cases d <;> rfl
theorem knOf_slice {P : Program} {d : TypeDesc} {e : TypeId} (h : knOf P d = .slice e) : d = .slice e := by
  cases d <;> simp [knOf] at h
  rw [h]
theorem knOf_str {P : Program} {d : TypeDesc} (h : knOf P d = .str) : d = .string := by
  cases d <;> simp [knOf] at h
  rfl
theorem knOf_bool {P : Program} {d : TypeDesc} (h : knOf P d = .bool) : d = .bool := by
  cases d <;> simp [knOf] at h
  rfl
theorem knOf_int {P : Program} {d : TypeDesc} {k : IntKind} (h : knOf P d = .int k) : d = .int k := by
  cases d <;> simp [knOf] at h
  rw [h]
theorem knOf_struct {P : Program} {d : TypeDesc} {l : List (Nat × Nat × Bool)} (h : knOf P d = .struct l) : ∃ fs, d = .struct fs ∧ l = fs.toList.map fun f => (f.offset, szOf P f.type, Ev.isAgg P f.type) := by
  cases d <;> simp [knOf] at h
  exact ⟨_, rfl, h.symm⟩

theorem takeN_spec : ∀ (n : Nat) (cs l : List V), takeN n cs = some l → l.length = n ∧ ∀ k, k < n → l[k]? = cs[k]?
  | 0, cs, l, h => by obtain rfl := Option.some.inj (show some [] = some l from h); exact ⟨rfl, fun k hk => absurd hk (by omega)⟩
  | n + 1, [], l, h => by cases h
  | n + 1, v :: vs, l, h => by
    unfold takeN at h
    cases e : takeN n vs with
    | none => rw [e] at h; cases h
    | some m =>
      rw [e] at h
      obtain rfl := Option.some.inj h
      obtain ⟨h1, h2⟩ := takeN_spec n vs m e
      refine ⟨by simp [h1], fun k hk => ?_⟩
      cases k with
      | zero => rfl
      | succ k => exact h2 k (by omega)

section
variable {β : Base} {s : St} {a : Act} {w : World} {g : Gh} {pm : Nat → Nat → Option (Nat × Path)}

theorem constV_ok (ok : Nat → Nat → Prop) (at_ : Nat → Path → Option Nat) (v : Value) : VR w ok g at_ (constV v) v := by
  cases v with
  | agg cs =>
    exact VR.agg (w := w) (ok := ok) (g := g) (at_ := at_) (cs.toList.map .sc) cs.toList (by simp) (fun k v x hv hx => by
      rw [List.getElem?_map, hx] at hv
      cases hv
      exact .sc _)
  | _ => exact .sc _
theorem R.opd (h : R β s a w g pm) (x : Operand) : VR w (okc β pm) g s.len (s.opd x) (a.eval x) := by
  cases x with
  | tmp t => exact h.tm t
  | const v => exact constV_ok _ _ v
  | global n => exact .dead _
  | func f => exact VR.fn f [] [] rfl (fun k v x hv => by simp at hv)

theorem VR.sc_inv {ok : Nat → Nat → Prop} {at_ : Nat → Path → Option Nat} {y c : Value} (h : VR w ok g at_ (.sc y) c) : c = y := by cases h; rfl

theorem Addr.add_off (b o n : Nat) : (⟨b, o, none⟩ : Addr).add n = ⟨b, o + n, none⟩ := by unfold Addr.add; split <;> simp_all

/-- A view of a tree's cell. -/
theorem shView_ok {ok : Nat → Nat → Prop} {at_ : Nat → Path → Option Nat} {v : V} {c : Value} (h : SR w ok v c) : VR w ok g at_ (shView v) c := by
  cases h with
  | sc x => exact .sc _
  | nil n A cap => exact .sh _ _ _ (.nil n A cap)
  | sl s es b o cap vals hs h1 h2 hc => exact .sh _ _ _ (.sl s es b o cap vals hs h1 h2 hc)
  | own d n es c h => exact .sh _ _ _ h
  | sh n es c h => exact .sh _ _ _ h
  | any v c h => cases v <;> first | exact .dead _ | cases h

/-- What stood in cells stands there still. -/
def Kp (w w' : World) : Prop := ∀ b o c, w.cell? ⟨b, o, none⟩ = some c → w'.cell? ⟨b, o, none⟩ = some c
theorem Kp.refl (w : World) : Kp w w := fun _ _ _ h => h
theorem mk_ok {P : Program} {t : TypeId} {info : TypeInfo} {d : TypeDesc} {z : List Value} (hi : P.info? t = some info) (hd : P.underlying t = some d) {ok : Nat → Nat → Prop} {at_ : Nat → Path → Option Nat} {l : List V} {v : V} {b o : Nat}
    (hm : mk ⟨info.size, knOf P d, z, info.bytes⟩ l = some v) (hl : l.length = info.size) (hc : ∀ (k : Nat) (u : V), l[k]? = some u → ∃ c, w.cell? ⟨b, o + k, none⟩ = some c ∧ VR w ok g at_ u c) :
    ∃ x, (∀ w', Kp w w' → (loadVar t ⟨b, o, none⟩).run P w' = .ok x w') ∧ VR w ok g at_ v x := by
  unfold mk at hm
  rw [agg_eq hd] at hm
  unfold loadVar
  simp only [Sem.run_bind, run_isAgg hd, Result.andThen_ok]
  cases ha : Ev.isAgg P t with
  | true =>
    rw [ha] at hm
    obtain rfl := Option.some.inj hm
    have : ∃ cs : List Value, cs.length = l.length ∧ ∀ (k : Nat) (u : V) (c : Value), l[k]? = some u → cs[k]? = some c → w.cell? ⟨b, o + k, none⟩ = some c ∧ VR w ok g at_ u c := by
      clear hm hl
      induction l generalizing o with
      | nil => exact ⟨[], rfl, fun k u c hu => by simp at hu⟩
      | cons u l ih =>
        obtain ⟨c, h1, h2⟩ := hc 0 u rfl
        obtain ⟨cs, h3, h4⟩ := ih (o := o + 1) (fun k u' hu => by have := hc (k + 1) u' hu; rwa [show o + 1 + k = o + (k + 1) by omega])
        refine ⟨c :: cs, by simp [h3], fun k u' c' hu hcc => ?_⟩
        cases k with
        | zero =>
          obtain rfl := Option.some.inj hu
          obtain rfl := Option.some.inj hcc
          exact ⟨h1, h2⟩
        | succ k => have := h4 k u' c' hu hcc; rwa [show o + 1 + k = o + (k + 1) by omega] at this
    obtain ⟨cs, h3, h4⟩ := this
    refine ⟨.agg cs.toArray, fun w' hkp => ?_, VR.agg l cs h3 (fun k u c hu hcc => (h4 k u c hu hcc).2)⟩
    have hrun := run_loadCells_list (P := P) w' ⟨b, o, none⟩ cs (fun j c hj => by
      have hjl : j < l.length := by rw [← h3]; exact (List.getElem?_eq_some_iff.1 hj).1
      rw [Addr.add_off]
      exact hkp _ _ _ (h4 j _ c (List.getElem?_eq_getElem hjl) hj).1)
    rw [h3, hl] at hrun
    simp [run_size hi, hrun]
  | false =>
    rw [ha] at hm
    match l, hm, hl, hc with
    | [u], hm, hl, hc =>
      obtain rfl := Option.some.inj (show some u = some v from hm)
      obtain ⟨c, h1, h2⟩ := hc 0 u rfl
      refine ⟨c, fun w' hkp => ?_, h2⟩
      rw [Nat.add_zero] at h1
      simp [hkp _ _ _ h1]
    | [], hm, _, _ => cases hm
    | _ :: _ :: _, hm, _, _ => cases hm

theorem viewL_get (r : Nat) (p : Path) (d : Bool) (i : Nat) : ∀ (l : List V) (j k : Nat), (viewL r p d i j l)[k]? = (l[k]?).map (ownView r p d i (j + k))
  | [], j, k => by simp [viewL]
  | v :: l, j, 0 => by simp [viewL]
  | v :: l, j, k + 1 => by
    simp only [viewL, List.getElem?_cons_succ]
    rw [viewL_get r p d i l (j + 1) k, show j + 1 + k = j + (k + 1) by omega]
theorem viewL_length (r : Nat) (p : Path) (d : Bool) (i : Nat) : ∀ (l : List V) (j : Nat), (viewL r p d i j l).length = l.length
  | [], j => rfl
  | v :: l, j => by simp [viewL, viewL_length r p d i l (j + 1)]

theorem St.at_snoc {s : St} {r : Nat} {p : Path} {es : List (List V)} {d : Bool} {n : Nat} (h : s.at r p = some (es, d, n)) (i j : Nat) : s.at r (p ++ [(i, j)]) = sub d n es [(i, j)] := by
  unfold St.at at h ⊢
  cases ho : s.obj r with
  | none => rw [ho] at h; cases h
  | some o => rw [ho] at h; exact sub_snoc h i j

/-- What is seen of a cell of one's own. -/
theorem ownView_ok (h : R β s a w g pm) {r : Nat} {p : Path} {es : List (List V)} {d : Bool} {n : Nat} (hat : s.at r p = some (es, d, n)) {i j : Nat} {e : List V} {v : V} (he : es[i]? = some e) (hv : e[j]? = some v) {c : Value}
    (hc : CR w (okc β pm) g r p d i j v c) : VR w (okc β pm) g s.len (ownView r p d i j v) c := by
  have key : ∀ e' d' n', sub d n es [(i, j)] = some (e', d', n') → s.len r (p ++ [(i, j)]) = some e'.length := fun e' d' n' hs => by
    unfold St.len; rw [St.at_snoc hat, hs]; rfl
  cases v with
  | own d' n' e' => exact .hdr _ _ _ _ (key e' d' n' (by simp [sub, he, hv])) hc
  | sl n' e' =>
    cases d with
    | true => exact .hdr _ _ _ _ (key e' true n' (by simp [sub, he, hv])) hc
    | false => exact .sh _ _ _ hc
  | _ => exact VR.bare (fun _ _ _ h k => ⟨h, k⟩) hc

variable {C : Ctx}
theorem evLoad_ok (hty : ∀ t i, C.ty t = some i → tyOf C.P t = some i) (h : R β s a w g pm) {t : TypeId} {u v : V} {x : Value} (hu : VR w (okc β pm) g s.len u x) (hv : evLoad C s t u = some v) :
    ∃ y, (∀ w', Kp w w' → (Instr.loadAt t x).run C.P w' = .ok y w') ∧ VR w (okc β pm) g s.len v y := by
  unfold evLoad at hv
  cases ht : C.ty t with
  | none => rw [ht] at hv; cases hv
  | some i =>
    rw [ht] at hv
    obtain ⟨info, d, z, h1, h2, h3, rfl⟩ := ty_info (hty t i ht)
    cases hu with
    | shp cs b o vals c1 c2 =>
      dsimp only at hv
      cases e : takeN info.size cs with
      | none => rw [e] at hv; cases hv
      | some l =>
        rw [e] at hv
        obtain ⟨l1, l2⟩ := takeN_spec _ _ _ e
        obtain ⟨y, y1, y2⟩ := mk_ok (w := w) (g := g) (at_ := s.len) (b := b) (o := o) h1 h2 hv (by rw [List.length_map, l1]) (fun k u hk => by
          rw [List.getElem?_map] at hk
          cases hlk : l[k]? with
          | none => rw [hlk] at hk; cases hk
          | some q =>
            rw [hlk] at hk
            obtain rfl := Option.some.inj hk
            have hk' : k < info.size := by rw [← l1]; exact (List.getElem?_eq_some_iff.1 hlk).1
            rw [l2 k hk'] at hlk
            exact ⟨vals k, (c1 k q hlk).2, shView_ok (c2 k q hlk)⟩)
        exact ⟨y, fun w' hkp => by simpa [Instr.loadAt, Instr.sureAddr] using y1 w' hkp, y2⟩
    | bxr cs b o vals c1 c2 =>
      dsimp only at hv
      cases e : takeN info.size cs with
      | none => rw [e] at hv; cases hv
      | some l =>
        rw [e] at hv
        obtain ⟨l1, l2⟩ := takeN_spec _ _ _ e
        obtain ⟨y, y1, y2⟩ := mk_ok (w := w) (g := g) (at_ := s.len) (b := b) (o := o) h1 h2 hv l1 (fun k u hk => by
          have hk' : k < info.size := by rw [← l1]; exact (List.getElem?_eq_some_iff.1 hk).1
          rw [l2 k hk'] at hk
          exact ⟨vals k, (c1 k u hk).2, c2 k u hk⟩)
        exact ⟨y, fun w' hkp => by simpa [Instr.loadAt, Instr.sureAddr] using y1 w' hkp, y2⟩
    | ptr r p k j n hn hl =>
      dsimp only at hv
      cases hat : s.at r p with
      | none => rw [hat] at hv; cases hv
      | some q =>
        obtain ⟨es, dd, nn⟩ := q
        rw [hat] at hv
        dsimp only at hv
        cases hes : es[k]? with
        | none => rw [hes] at hv; cases hv
        | some cs =>
          rw [hes] at hv
          dsimp only at hv
          cases e : takeN info.size (cs.drop j) with
          | none => rw [e] at hv; cases hv
          | some l =>
            rw [e] at hv
            obtain ⟨l1, l2⟩ := takeN_spec _ _ _ e
            have hb := h.blk r p es dd nn hat
            obtain ⟨y, y1, y2⟩ := mk_ok (w := w) (g := g) (b := g.blk r p) (o := g.off r p + k * g.sz r p + j) h1 h2 hv (by rw [viewL_length, l1]) (fun m u hm => by
              rw [viewL_get] at hm
              cases hlk : l[m]? with
              | none => rw [hlk] at hm; cases hm
              | some q =>
                rw [hlk] at hm
                obtain rfl := Option.some.inj hm
                have hk' : m < info.size := by rw [← l1]; exact (List.getElem?_eq_some_iff.1 hlk).1
                rw [l2 m hk', List.getElem?_drop] at hlk
                obtain ⟨c, c1, c2⟩ := hb.cell k (j + m) cs q hes hlk
                exact ⟨c, by rw [show g.off r p + k * g.sz r p + j + m = g.off r p + k * g.sz r p + (j + m) by omega]; exact c1, ownView_ok h hat hes hlk c2⟩)
            exact ⟨y, fun w' hkp => by simpa [Instr.loadAt, Instr.sureAddr] using y1 w' hkp, y2⟩
    | _ => cases hv
end
end Ev
namespace Ev
open Go Go.RowKit
set_option linter.unusedVariables false
set_option linter.unusedSimpArgs false
section
variable {β : Base} {s : St} {a : Act} {w : World} {g : Gh} {pm : Nat → Nat → Option (Nat × Path)} {C : Ctx}

theorem SR.sl_len {ok : Nat → Nat → Prop} {n : Nat} {es : List (List V)} {c : Value} (h : SR w ok (.sl n es) c) : ∃ A cap, c = .slice A es.length cap ∧ es.length ≤ cap := by
  cases h with
  | nil n A cap => exact ⟨A, cap, rfl, Nat.zero_le _⟩
  | sl s es b o cap vals hs h1 h2 hc => exact ⟨_, _, rfl, hc⟩
  | any v c h => cases h

/-- The real slice of a header, where it has an element. -/
theorem RefHdr.pos {r : Nat} {p : Path} {o len : Nat} {c : Value} (h : RefHdr g r p o len c) (hl : 0 < len) : g.nl r p = false ∧ ∃ cap', c = .slice (some ⟨g.blk r p, g.off r p + o * g.sz r p, none⟩) len cap' := by
  rcases h with ⟨_, _, h0⟩ | ⟨h1, A, cap', h2, _, h3, _⟩
  · omega
  · exact ⟨h1, cap', by rw [h2, h3 hl]⟩
theorem RefHdr.len {r : Nat} {p : Path} {o len : Nat} {c : Value} (h : RefHdr g r p o len c) : ∃ A cap', c = .slice A len cap' := by
  rcases h with ⟨_, h1, h0⟩ | ⟨h1, A, cap', h2, h3, _⟩
  · exact ⟨none, 0, by rw [h1, h0]⟩
  · exact ⟨_, _, h2⟩

theorem run_indexAt {P : Program} {t e : TypeId} {ei : TypeInfo} (ht : P.underlying t = some (.slice e)) (he : P.info? e = some ei) {b o len cap : Nat} {k : IntKind} {i : Int} (h0 : 0 ≤ i) (h1 : i < len) (w : World) :
    (Instr.indexAt t (.slice (some ⟨b, o, none⟩) len cap) (.int k i)).run P w = .ok (.pointer (some ⟨b, o + i.toNat * ei.size, none⟩)) w := by
  have hi : (0 : Int) ≤ i ∧ i < (len : Int) := ⟨h0, h1⟩
  unfold Instr.indexAt
  simp only [asIntOf, Sem.run_bind, Sem.run_pure, Result.andThen_ok, run_underlying ht]
  rw [if_pos hi]
  simp [run_size he, Addr.add_off]

theorem evIndexAddr_ok (hty : ∀ t i, C.ty t = some i → tyOf C.P t = some i) (h : R β s a w g pm) {t : TypeId} {u ix v : V} {x y : Value} (hu : VR w (okc β pm) g s.len u x) (hix : VR w (okc β pm) g s.len ix y)
    (hv : evIndexAddr C s t u ix = some v) : ∃ z, (∀ w', (Instr.indexAt t x y).run C.P w' = .ok z w') ∧ VR w (okc β pm) g s.len v z := by
  unfold evIndexAddr at hv
  split at hv
  case h_2 => cases hv
  rename_i _ sz e zz by_ ht
  cases he : C.ty e with
  | none => rw [he] at hv; cases hv
  | some ei =>
    rw [he] at hv
    obtain ⟨info, d, z, h1, h2, h3, h4⟩ := ty_info (hty t _ ht)
    simp only [TyI.mk.injEq] at h4
    obtain rfl := knOf_slice h4.2.1.symm
    obtain ⟨einfo, ed, ez, e1, e2, e3, rfl⟩ := ty_info (hty e _ he)
    dsimp only at hv
    split at hv
    case h_2 => cases hv
    rename_i _ k i
    obtain rfl := hix.sc_inv
    split at hv
    case h_2 => cases hv
    rename_i _ hi0
    have hi0 : (0 : Int) ≤ i := of_decide_eq_true hi0
    cases hu with
    | sh n es c hc =>
      dsimp only at hv
      split at hv
      case h_2 => cases hv
      rename_i _ hbq
      have hlen : n = einfo.size := Nat.eq_of_beq_eq_true hbq
      cases hes : es[i.toNat]? with
      | none => rw [hes] at hv; cases hv
      | some cs =>
        rw [hes] at hv
        obtain rfl := Option.some.inj hv
        have hlt : i.toNat < es.length := (List.getElem?_eq_some_iff.1 hes).1
        cases hc with
        | nil => simp at hlt
        | any _ _ h => cases h
        | sl _ _ b o cap vals hs c1 c2 hcap =>
          subst hlen
          refine ⟨_, fun w' => run_indexAt h2 e1 hi0 (by omega) w', ?_⟩
          refine VR.shp cs b (o + i.toNat * einfo.size) (fun j => vals i.toNat j) (fun j q hq => ?_) (fun j q hq => c2 _ _ _ _ hes hq)
          have := c1 i.toNat j cs q hes hq
          exact this
    | hdr r p n c ha hc =>
      dsimp only at hv
      cases hat : s.at r p with
      | none => rw [hat] at hv; cases hv
      | some q =>
        obtain ⟨es, dd, nn⟩ := q
        rw [hat] at hv
        dsimp only at hv
        split at hv
        case h_2 => cases hv
        rename_i _ hbq
        have hlen : nn = einfo.size := Nat.eq_of_beq_eq_true hbq
        cases hes : es[i.toNat]? with
        | none => rw [hes] at hv; cases hv
        | some cs =>
          rw [hes] at hv
          obtain rfl := Option.some.inj hv
          have hlt : i.toNat < es.length := (List.getElem?_eq_some_iff.1 hes).1
          have hn : n = es.length := by unfold St.len at ha; rw [hat] at ha; exact (Option.some.inj ha).symm
          subst hn
          obtain ⟨hnl, cap', rfl⟩ := hc.pos (by omega)
          refine ⟨_, fun w' => run_indexAt h2 e1 hi0 (by omega) w', ?_⟩
          have hsz := (h.blk r p es dd nn hat).siz
          rw [hlen] at hsz
          rw [hsz, Nat.zero_mul, Nat.add_zero]
          have := VR.ptr (w := w) (ok := okc β pm) (g := g) (at_ := s.len) r p i.toNat 0 _ ha hnl
          rw [hsz] at this
          exact this
    | part r p o len n c ha hl hc =>
      dsimp only at hv
      split at hv
      case h_2 => cases hv
      rename_i _ hi1
      have hi1 : i < (len : Int) := of_decide_eq_true hi1
      cases hat : s.at r p with
      | none => rw [hat] at hv; cases hv
      | some q =>
        obtain ⟨es, dd, nn⟩ := q
        rw [hat] at hv
        dsimp only at hv
        split at hv
        case h_2 => cases hv
        rename_i _ hbq
        have hlen : nn = einfo.size := Nat.eq_of_beq_eq_true hbq
        cases hes : es[o + i.toNat]? with
        | none => rw [hes] at hv; cases hv
        | some cs =>
          rw [hes] at hv
          obtain rfl := Option.some.inj hv
          obtain ⟨hnl, cap', rfl⟩ := hc.pos (by omega)
          refine ⟨_, fun w' => run_indexAt h2 e1 hi0 hi1 w', ?_⟩
          have hsz := (h.blk r p es dd nn hat).siz
          rw [hlen] at hsz
          have := VR.ptr (w := w) (ok := okc β pm) (g := g) (at_ := s.len) r p (o + i.toNat) 0 _ ha hnl
          rw [hsz] at this ⊢
          rw [Nat.add_assoc, ← Nat.add_mul]
          exact this
    | _ => cases hv

theorem run_fieldAt {P : Program} {t : TypeId} {fs : Array Field} (ht : P.underlying t = some (.struct fs)) {f : Nat} {fd : Field} (hf : fs[f]? = some fd) {fi : TypeInfo} (hi : P.info? fd.type = some fi) (hn : fi.size ≠ 0) (b o : Nat) (w : World) :
    (Instr.fieldAt t (.pointer (some ⟨b, o, none⟩)) f).run P w = .ok (.pointer (some ⟨b, o + fd.offset, none⟩)) w := by
  unfold Instr.fieldAt
  simp only [Sem.run_bind, run_underlying ht, Result.andThen_ok, hf, Instr.sureAddr, Sem.run_pure, fieldPlace, run_size hi]
  rw [if_neg hn]
  simp [Addr.add_off]
theorem szOf_pos {P : Program} {t : TypeId} {n : Nat} (h : szOf P t = n + 1) : ∃ i, P.info? t = some i ∧ i.size = n + 1 := by
  unfold szOf at h
  cases e : P.info? t with
  | none => rw [e] at h; cases h
  | some i => rw [e] at h; exact ⟨i, rfl, h⟩
theorem evFieldAddr_ok (hty : ∀ t i, C.ty t = some i → tyOf C.P t = some i) {t : TypeId} {f : Nat} {u v : V} {x : Value} {ok : Nat → Nat → Prop} {at_ : Nat → Path → Option Nat} (hu : VR w ok g at_ u x)
    (hv : evFieldAddr C t f u = some v) : ∃ z, (∀ w', (Instr.fieldAt t x f).run C.P w' = .ok z w') ∧ VR w ok g at_ v z := by
  unfold evFieldAddr at hv
  split at hv
  case h_2 => cases hv
  rename_i _ sz fs zz by_ ht
  obtain ⟨info, d, z, h1, h2, h3, h4⟩ := ty_info (hty t _ ht)
  simp only [TyI.mk.injEq] at h4
  obtain ⟨l, rfl, rfl⟩ := knOf_struct h4.2.1.symm
  split at hv
  case h_2 => cases hv
  rename_i _ o n ag hf
  rw [List.getElem?_map, Array.getElem?_toList] at hf
  cases hfd : l[f]? with
  | none => rw [hfd] at hf; cases hf
  | some fd =>
    rw [hfd] at hf
    simp only [Option.map_some, Option.some.injEq, Prod.mk.injEq] at hf
    obtain ⟨rfl, hsz, _⟩ := hf
    obtain ⟨fi, f1, f2⟩ := szOf_pos hsz
    cases hu with
    | shp cs b o vals c1 c2 =>
      obtain rfl := Option.some.inj hv
      refine ⟨_, fun w' => run_fieldAt h2 hfd f1 (by omega) b o w', ?_⟩
      refine VR.shp _ _ _ (fun j => vals (fd.offset + j)) (fun j q hq => ?_) (fun j q hq => ?_)
      · rw [List.getElem?_drop] at hq
        rw [Nat.add_assoc]; exact c1 _ _ hq
      · rw [List.getElem?_drop] at hq
        exact c2 _ _ hq
    | ptr r p i j n hn hl =>
      obtain rfl := Option.some.inj hv
      refine ⟨_, fun w' => run_fieldAt h2 hfd f1 (by omega) _ _ w', ?_⟩
      have := VR.ptr (w := w) (ok := ok) (g := g) (at_ := at_) r p i (j + fd.offset) n hn hl
      rw [← Nat.add_assoc] at this
      exact this
    | bxr cs b o vals c1 c2 =>
      obtain rfl := Option.some.inj hv
      refine ⟨_, fun w' => run_fieldAt h2 hfd f1 (by omega) b o w', ?_⟩
      refine VR.bxr _ _ _ (fun j => vals (fd.offset + j)) (fun j q hq => ?_) (fun j q hq => ?_)
      · rw [List.getElem?_drop] at hq
        rw [Nat.add_assoc]; exact c1 _ _ hq
      · rw [List.getElem?_drop] at hq
        exact c2 _ _ hq
    | _ => cases hv
end
end Ev
namespace Ev
open Go Go.RowKit
set_option linter.unusedVariables false
set_option linter.unusedSimpArgs false
section
variable {β : Base} {s : St} {a : Act} {w : World} {g : Gh} {pm : Nat → Nat → Option (Nat × Path)} {C : Ctx}

theorem evIndex_ok (hty : ∀ t i, C.ty t = some i → tyOf C.P t = some i) {t : TypeId} {u ix v : V} {x y : Value} {ok : Nat → Nat → Prop} {at_ : Nat → Path → Option Nat} (hu : VR w ok g at_ u x) (hix : VR w ok g at_ ix y)
    (hv : evIndex C t u ix = some v) : ∃ z, (∀ w', Kp w w' → (Instr.index t x y).run C.P w' = .ok z w') ∧ VR w ok g at_ v z := by
  unfold evIndex at hv
  split at hv
  case h_2 => cases hv
  rename_i _ sz zz by_ ht
  obtain ⟨info, d, z, h1, h2, h3, h4⟩ := ty_info (hty t _ ht)
  simp only [TyI.mk.injEq] at h4
  obtain rfl := knOf_str h4.2.1.symm
  split at hv
  case h_2 => cases hv
  obtain rfl := hu.sc_inv
  split at hv
  case h_2 => cases hv
  obtain rfl := hix.sc_inv
  split at hv
  case h_2 => cases hv
  rename_i b _ k i _ hb
  simp only [Bool.and_eq_true, decide_eq_true_eq] at hb
  obtain rfl := Option.some.inj hv
  refine ⟨_, fun w' _ => ?_, .sc _⟩
  have hlt : i.toNat < b.data.size := by have : b.size = b.data.size := rfl; omega
  unfold Instr.index
  simp only [asIntOf, Sem.run_bind, Sem.run_pure, Result.andThen_ok, run_underlying h2]
  have he : b[i.toNat]? = some (b.data[i.toNat]) := by
    have hlt' : i.toNat < b.size := hlt
    show (if h : i.toNat < b.size then some b[i.toNat] else none) = _
    rw [dif_pos hlt']; rfl
  rw [if_pos hb.1, he]
  unfold byteAt
  rw [Array.getElem?_eq_getElem hlt]
  rfl

/-- The bounds that were found are right, and the run finds them. -/
theorem run_bounds {P : Program} {len cap : Nat} (hc : len ≤ cap) (sl : Bool) {lo hi : Option Operand} {l h : Nat} (ha : ∀ x, VR w (okc β pm) g s.len (s.opd x) (a.eval x)) (he : evBounds s len lo hi = some (l, h)) :
    l ≤ h ∧ h ≤ len ∧ ∀ w', (Instr.sliceBounds sl len cap (lo.map a.eval) (hi.map a.eval) none).run P w' = .ok (l, h, cap) w' := by
  unfold evBounds at he
  have hb : ∀ (w' : World) (x : Operand) (k : IntKind) (n : Int) (m : Nat) (code : BoundsCode), s.opd x = .sc (.int k n) → 0 ≤ n → n ≤ (m : Int) → (Instr.sliceBound (a.eval x) m code).run P w' = .ok n.toNat w' := fun w' x k n m code hx h0 h1 => by
    have := ha x; rw [hx] at this
    rw [this.sc_inv]
    unfold Instr.sliceBound
    simp only [asIntOf, Sem.run_bind, Sem.run_pure, Result.andThen_ok]
    rw [if_pos ⟨h0, h1⟩]; rfl
  unfold Instr.sliceBounds
  cases lo with
  | none =>
    cases hi with
    | none =>
      obtain ⟨rfl, rfl⟩ : 0 = l ∧ len = h := by simpa using he
      exact ⟨Nat.zero_le _, Nat.le_refl _, fun w' => by simp⟩
    | some hh =>
      dsimp only at he
      split at he
      case h_2 => cases he
      rename_i _ k n hn
      split at he
      case h_2 => cases he
      rename_i _ hc'
      simp only [Bool.and_eq_true, decide_eq_true_eq] at hc'
      obtain ⟨rfl, rfl⟩ : 0 = l ∧ n.toNat = h := by simpa using he
      refine ⟨Nat.zero_le _, by omega, fun w' => ?_⟩
      simp [hb w' hh k n cap _ hn hc'.1 (by omega)]
  | some ll =>
    dsimp only at he
    split at he
    case h_2 => cases he
    rename_i _ k n hn
    cases hi with
    | none =>
      dsimp only at he
      split at he
      case h_2 => cases he
      rename_i _ hc'
      simp only [Bool.and_eq_true, decide_eq_true_eq] at hc'
      obtain ⟨rfl, rfl⟩ : n.toNat = l ∧ len = h := by simpa using he
      refine ⟨by omega, Nat.le_refl _, fun w' => ?_⟩
      simp [hb w' ll k n len _ hn hc'.1 (by omega)]
    | some hh =>
      dsimp only at he
      split at he
      case h_2 => cases he
      rename_i _ k' m hm
      split at he
      case h_2 => cases he
      rename_i _ hc'
      simp only [Bool.and_eq_true, decide_eq_true_eq] at hc'
      obtain ⟨rfl, rfl⟩ : n.toNat = l ∧ m.toNat = h := by simpa using he
      refine ⟨by omega, by omega, fun w' => ?_⟩
      simp [hb w' hh k' m cap _ hm (by omega) (by omega), hb w' ll k n m.toNat _ hn hc'.1 (by omega)]

theorem SR.part {ok : Nat → Nat → Prop} {size : Nat} {es : List (List V)} {c : Value} (hc : SR w ok (.sl size es) c) {l h : Nat} (hlh : l ≤ h) (hh : h ≤ es.length) :
    ∃ A cap, c = .slice A es.length cap ∧ es.length ≤ cap ∧ SR w ok (.sl size ((es.take h).drop l)) (.slice (if cap = l then A else A.map (·.add (l * size))) (h - l) (cap - l)) := by
  have hlen : ((es.take h).drop l).length = h - l := by rw [List.length_drop, List.length_take]; omega
  cases hc with
  | any _ _ h => cases h
  | nil _ A cap =>
    refine ⟨A, cap, rfl, Nat.zero_le _, ?_⟩
    have e0 : h = 0 := by simpa using hh
    subst e0
    have e1 : l = 0 := by omega
    subst e1
    exact SR.nil size _ _
  | sl _ _ b o cap vals hs' c1 c2 hcap =>
    refine ⟨_, cap, rfl, hcap, ?_⟩
    have hget : ∀ i e, ((es.take h).drop l)[i]? = some e → es[l + i]? = some e := fun i e he => by
      rw [List.getElem?_drop, List.getElem?_take] at he
      split at he
      · exact he
      · cases he
    by_cases e0 : h - l = 0
    · have : (es.take h).drop l = [] := List.eq_nil_of_length_eq_zero (by omega)
      rw [this, e0]
      split
      · exact SR.sl size [] b o (cap - l) (fun _ _ => undef) (fun i e he => by simp at he) (fun i j e v he => by simp at he) (fun i j e v he => by simp at he) (Nat.zero_le _)
      · simp only [Option.map_some, Addr.add_off]
        exact SR.sl size [] b _ (cap - l) (fun _ _ => undef) (fun i e he => by simp at he) (fun i j e v he => by simp at he) (fun i j e v he => by simp at he) (Nat.zero_le _)
    · rw [if_neg (by omega)]
      simp only [Option.map_some, Addr.add_off]
      have := SR.sl size ((es.take h).drop l) b (o + l * size) (cap - l) (fun i j => vals (l + i) j) (w := w) (ok := ok) (fun i e he => hs' _ _ (hget i e he))
        (fun i j e v he hv => by
          have := c1 (l + i) j e v (hget i e he) hv
          rw [show o + l * size + i * size + j = o + (l + i) * size + j by rw [Nat.add_mul]; omega]
          exact this)
        (fun i j e v he hv => c2 (l + i) j e v (hget i e he) hv) (by omega)
      rw [hlen] at this
      exact this

theorem run_sliceAt {P : Program} {t e : TypeId} {ei : TypeInfo} (ht : P.underlying t = some (.slice e)) (he : P.info? e = some ei) {A : Option Addr} {len cap l h : Nat} {lo hi : Option Value} (hb : (Instr.sliceBounds true len cap lo hi none).run P w = .ok (l, h, cap) w) :
    (Instr.sliceAt t (.slice A len cap) lo hi none).run P w = .ok (.slice (if cap = l then A else A.map (·.add (l * ei.size))) (h - l) (cap - l)) w := by
  unfold Instr.sliceAt
  simp only [Sem.run_bind, run_underlying ht, Result.andThen_ok]
  unfold Instr.slice
  simp only [Sem.run_bind, run_underlying ht, Result.andThen_ok, hb, run_size he, Sem.run_pure]

theorem RefHdr.part {r : Nat} {p : Path} {o len size : Nat} {c : Value} (hc : RefHdr g r p o len c) {l h : Nat} (hlh : l ≤ h) (hh : h ≤ len) (hz : g.sz r p = size) :
    ∃ A cap, c = .slice A len cap ∧ len ≤ cap ∧ RefHdr g r p (o + l) (h - l) (.slice (if cap = l then A else A.map (·.add (l * size))) (h - l) (cap - l)) := by
  rcases hc with ⟨h1, rfl, rfl⟩ | ⟨h1, A, cap, rfl, hlc, h2, h3⟩
  · refine ⟨none, 0, rfl, Nat.le_refl _, .inl ⟨h1, ?_, by omega⟩⟩
    have e1 : l = 0 := by omega
    have e2 : h = 0 := by omega
    subst e1; subst e2
    simp
  · refine ⟨some A, cap, rfl, hlc, ?_⟩
    by_cases e0 : cap = l
    · rw [if_pos e0]
      have e1 : h - l = 0 := by omega
      refine .inr ⟨h1, A, cap - l, rfl, by omega, fun hp => by omega, fun ho => ?_⟩
      have e2 : l = 0 := by omega
      obtain ⟨e3, e4⟩ := h3 (by omega)
      exact ⟨e3, by omega⟩
    · rw [if_neg e0]
      by_cases e1 : l = 0
      · subst e1
        refine .inr ⟨h1, A, cap, ?_, by omega, fun hp => ?_, fun ho => h3 (by omega)⟩
        · simp [Addr.add]
        · exact h2 (by omega)
      · refine .inr ⟨h1, A.add (l * size), cap - l, rfl, by omega, fun hp => ?_, fun ho => by omega⟩
        rw [h2 (by omega), Addr.add_off, hz, Nat.add_mul, Nat.add_assoc]

theorem run_sliceStr {P : Program} {t : TypeId} (ht : P.underlying t = some .string) {b : ByteArray} {l h : Nat} {lo hi : Option Value} (hb : (Instr.sliceBounds false b.size b.size lo hi none).run P w = .ok (l, h, b.size) w) :
    (Instr.sliceAt t (.string b) lo hi none).run P w = .ok (.string (b.extract l h)) w := by
  unfold Instr.sliceAt
  simp only [Sem.run_bind, run_underlying ht, Result.andThen_ok]
  unfold Instr.slice
  simp only [Sem.run_bind, run_underlying ht, Result.andThen_ok, hb, Sem.run_pure, Option.isSome_none, Bool.false_eq_true, if_false]

theorem evSlice_ok (hty : ∀ t i, C.ty t = some i → tyOf C.P t = some i) (h : R β s a w g pm) {t : TypeId} {u v : V} {x : Value} (hu : VR w (okc β pm) g s.len u x) {lo hi : Option Operand}
    (hv : evSlice C s t u lo hi = some v) : ∃ z, (∀ w', Kp w w' → (Instr.sliceAt t x (lo.map a.eval) (hi.map a.eval) none).run C.P w' = .ok z w') ∧ VR w (okc β pm) g s.len v z := by
  unfold evSlice at hv
  have ha : ∀ x, VR w (okc β pm) g s.len (s.opd x) (a.eval x) := fun x => h.opd x
  split at hv
  · rename_i _ sz zz by_ ht
    obtain ⟨info, d, z, h1, h2, h3, h4⟩ := ty_info (hty t _ ht)
    simp only [TyI.mk.injEq] at h4
    obtain rfl := knOf_str h4.2.1.symm
    split at hv
    case h_2 => cases hv
    obtain rfl := hu.sc_inv
    split at hv
    case h_2 => cases hv
    rename_i _ l hh hb
    obtain rfl := Option.some.inj hv
    obtain ⟨_, _, h7⟩ := run_bounds (Nat.le_refl _) false ha hb
    exact ⟨_, fun w' _ => run_sliceStr h2 (h7 w'), .sc _⟩
  · rename_i _ sz e zz by_ ht
    obtain ⟨info, d, z, h1, h2, h3, h4⟩ := ty_info (hty t _ ht)
    simp only [TyI.mk.injEq] at h4
    obtain rfl := knOf_slice h4.2.1.symm
    split at hv
    case h_2 => cases hv
    rename_i _ ei he
    obtain ⟨einfo, ed, ez, e1, e2, e3, rfl⟩ := ty_info (hty e _ he)
    cases hu with
    | sh n es c hc =>
      dsimp only at hv
      split at hv
      case h_2 => cases hv
      rename_i _ hbq
      obtain rfl : n = einfo.size := Nat.eq_of_beq_eq_true hbq
      split at hv
      case h_2 => cases hv
      rename_i _ l hh hb
      obtain rfl := Option.some.inj hv
      obtain ⟨A, cap, _, hcap⟩ := hc.sl_len
      obtain ⟨b1, b2, _⟩ := run_bounds (P := C.P) hcap true ha hb
      obtain ⟨A, cap, rfl, hcap, hp⟩ := hc.part b1 b2
      obtain ⟨_, _, h7⟩ := run_bounds hcap true ha hb
      exact ⟨_, fun w' _ => run_sliceAt h2 e1 (h7 w'), .sh _ _ _ hp⟩
    | hdr r p n c hn hc =>
      dsimp only at hv
      cases hat : s.at r p with
      | none => rw [hat] at hv; cases hv
      | some q =>
        obtain ⟨es, dd, nn⟩ := q
        rw [hat] at hv
        dsimp only at hv
        split at hv
        case h_2 => cases hv
        rename_i _ hbq
        obtain rfl : nn = einfo.size := Nat.eq_of_beq_eq_true hbq
        split at hv
        case h_2 => cases hv
        rename_i _ l hh hb
        obtain rfl := Option.some.inj hv
        have hne : n = es.length := by unfold St.len at hn; rw [hat] at hn; exact (Option.some.inj hn).symm
        subst hne
        have hcap0 := hc.len
        obtain ⟨b1, b2, _⟩ := run_bounds (P := C.P) (Nat.le_refl _) true ha hb
        obtain ⟨A, cap, rfl, hcap, hp⟩ := hc.part b1 b2 (h.blk r p es dd _ hat).siz
        obtain ⟨_, _, h7⟩ := run_bounds hcap true ha hb
        rw [Nat.zero_add] at hp
        exact ⟨_, fun w' _ => run_sliceAt h2 e1 (h7 w'), .part r p l (hh - l) _ _ hn (by omega) hp⟩
    | part r p o len n c hn hl hc =>
      dsimp only at hv
      cases hat : s.at r p with
      | none => rw [hat] at hv; cases hv
      | some q =>
        obtain ⟨es, dd, nn⟩ := q
        rw [hat] at hv
        dsimp only at hv
        split at hv
        case h_2 => cases hv
        rename_i _ hbq
        obtain rfl : nn = einfo.size := Nat.eq_of_beq_eq_true hbq
        split at hv
        case h_2 => cases hv
        rename_i _ l hh hb
        obtain rfl := Option.some.inj hv
        obtain ⟨b1, b2, _⟩ := run_bounds (P := C.P) (Nat.le_refl _) true ha hb
        obtain ⟨A, cap, rfl, hcap, hp⟩ := hc.part b1 b2 (h.blk r p es dd _ hat).siz
        obtain ⟨_, _, h7⟩ := run_bounds hcap true ha hb
        exact ⟨_, fun w' _ => run_sliceAt h2 e1 (h7 w'), .part r p (o + l) (hh - l) n _ hn (by omega) hp⟩
    | _ => cases hv
  · cases hv

theorem sameK_eq {k l : IntKind} (h : sameK k l = true) : k = l := of_decide_eq_true h

theorem evBin_ok {op : BinOp} {t : TypeId} {X Y : Operand} {u u' v : V} {x y : Value} {ok : Nat → Nat → Prop} {at_ : Nat → Path → Option Nat} (hu : VR w ok g at_ u x) (hu' : VR w ok g at_ u' y) (hv : evBin op u u' = some v) :
    ∃ z, (∀ w', (do eqGuard op t X Y x y; binOp op t x y : Sem Value).run C.P w' = .ok z w') ∧ VR w ok g at_ v z := by
  unfold evBin at hv
  split at hv
  · rename_i k p l q
    obtain rfl := hu.sc_inv
    obtain rfl := hu'.sc_inv
    have hg : ∀ w', (eqGuard op t X Y (.int k p) (.int l q)).run C.P w' = .ok () w' := fun w' => by unfold eqGuard; simp
    split at hv
    · split at hv
      case h_2 => cases hv
      rename_i _ h0
      have h0 : (0 : Int) ≤ q := of_decide_eq_true h0
      obtain rfl := Option.some.inj hv
      refine ⟨_, fun w' => ?_, .sc _⟩
      simp [hg, binOp, Op.shift, show ¬ q < 0 by omega]
    · split at hv
      case h_2 => cases hv
      rename_i _ h0
      have h0 : (0 : Int) ≤ q := of_decide_eq_true h0
      obtain rfl := Option.some.inj hv
      refine ⟨_, fun w' => ?_, .sc _⟩
      simp [hg, binOp, Op.shift, show ¬ q < 0 by omega]
    · split at hv
      case h_2 => cases hv
      rename_i hk
      obtain rfl := sameK_eq hk
      split at hv
      case h_16 => cases hv
      case h_4 =>
        split at hv
        case h_2 => cases hv
        rename_i _ h0
        have h0 : q ≠ 0 := by simpa using h0
        obtain rfl := Option.some.inj hv
        refine ⟨_, fun w' => ?_, .sc _⟩
        simp [hg, binOp, Op.intDiv, h0]
      case h_5 =>
        split at hv
        case h_2 => cases hv
        rename_i _ h0
        have h0 : q ≠ 0 := by simpa using h0
        obtain rfl := Option.some.inj hv
        refine ⟨_, fun w' => ?_, .sc _⟩
        simp [hg, binOp, Op.intDiv, h0]
      all_goals first
        | (obtain rfl := Option.some.inj hv
           refine ⟨_, fun w' => ?_, .sc _⟩
           simp only [Sem.run_bind, hg, Result.andThen_ok, binOp, Op.intArith, Op.intBits, Op.intCmp, ne_eq, not_true_eq_false, if_false, Sem.run_pure]; done)
  · rename_i p q
    obtain rfl := hu.sc_inv
    obtain rfl := hu'.sc_inv
    have hg : ∀ w', (eqGuard op t X Y (.string p) (.string q)).run C.P w' = .ok () w' := fun w' => by unfold eqGuard; simp
    split at hv
    · split at hv
      case h_2 => cases hv
      rename_i _ h0
      have h0 : p.size + q.size ≤ 9223372036854775807 := of_decide_eq_true h0
      obtain rfl := Option.some.inj hv
      refine ⟨_, fun w' => ?_, .sc _⟩
      have : ¬ (((p.size + q.size : Nat) : Int) > IntKind.i64.max) := by
        show ¬ (((p.size + q.size : Nat) : Int) > 9223372036854775807)
        omega
      simp only [Sem.run_bind, hg, Result.andThen_ok, binOp, Op.stringOp]
      rw [if_neg this]; rfl
    · obtain rfl := Option.some.inj hv
      exact ⟨_, fun w' => by simp [hg, binOp, Op.stringOp], .sc _⟩
    · obtain rfl := Option.some.inj hv
      exact ⟨_, fun w' => by simp [hg, binOp, Op.stringOp], .sc _⟩
    · cases hv
  · cases hv
end
end Ev
namespace Ev
open Go Go.RowKit
set_option linter.unusedVariables false
set_option linter.unusedSimpArgs false
section
variable {β : Base} {s : St} {a : Act} {w : World} {g : Gh} {pm : Nat → Nat → Option (Nat × Path)} {C : Ctx}

theorem evUn_ok {P : Program} {op : UnOp} {u v : V} {x : Value} {ok : Nat → Nat → Prop} {at_ : Nat → Path → Option Nat} (hu : VR w ok g at_ u x) (hv : evUn op u = some v) :
    ∃ z, (∀ w', (Op.unary op x).run P w' = .ok z w') ∧ VR w ok g at_ v z := by
  unfold evUn at hv
  split at hv
  · obtain rfl := hu.sc_inv
    obtain rfl := Option.some.inj hv
    exact ⟨_, fun w' => by simp [Op.unary], .sc _⟩
  · obtain rfl := hu.sc_inv
    obtain rfl := Option.some.inj hv
    exact ⟨_, fun w' => by simp [Op.unary, Op.intArith], .sc _⟩
  · cases hv

theorem evConv_ok (hty : ∀ t i, C.ty t = some i → tyOf C.P t = some i) {t t' : TypeId} {u v : V} {x : Value} {ok : Nat → Nat → Prop} {at_ : Nat → Path → Option Nat} (hu : VR w ok g at_ u x) (hv : evConv C t t' u = some v) :
    ∃ z, (∀ w', Kp w w' → (convert t t' x).run C.P w' = .ok z w') ∧ VR w ok g at_ v z := by
  unfold evConv at hv
  split at hv
  · rename_i i sz k zz by_ n h1 h2
    obtain ⟨info, d, z, a1, a2, a3, a4⟩ := ty_info (hty t _ h1)
    obtain ⟨info', d', z', b1, b2, b3, b4⟩ := ty_info (hty t' _ h2)
    simp only [TyI.mk.injEq] at b4
    obtain rfl := knOf_int b4.2.1.symm
    obtain rfl := hu.sc_inv
    obtain rfl := Option.some.inj hv
    exact ⟨_, fun w' _ => by simp [convert, run_underlying a2, run_underlying b2, Conv.intToInt], .sc _⟩
  · rename_i i sz zz by_ n h1 h2
    obtain ⟨info, d, z, a1, a2, a3, a4⟩ := ty_info (hty t _ h1)
    obtain ⟨info', d', z', b1, b2, b3, b4⟩ := ty_info (hty t' _ h2)
    simp only [TyI.mk.injEq] at b4
    obtain rfl := knOf_str b4.2.1.symm
    obtain rfl := hu.sc_inv
    obtain rfl := Option.some.inj hv
    exact ⟨_, fun w' _ => by simp [convert, run_underlying a2, run_underlying b2], .sc _⟩
  · cases hv

theorem evPick_ok {c u u' v : V} {b x y : Value} {ok : Nat → Nat → Prop} {at_ : Nat → Path → Option Nat} (hc : VR w ok g at_ c b) (hu : VR w ok g at_ u x) (hu' : VR w ok g at_ u' y) (hv : evPick c u u' = some v) :
    ∃ t, b = .bool t ∧ VR w ok g at_ v (if t then x else y) := by
  unfold evPick at hv
  split at hv
  case h_2 => cases hv
  rename_i _ t
  obtain rfl := hc.sc_inv
  refine ⟨t, rfl, ?_⟩
  split at hv
  · obtain rfl := hu.sc_inv
    obtain rfl := hu'.sc_inv
    split at hv
    case h_2 => cases hv
    rename_i hk
    obtain rfl := sameK_eq hk
    obtain rfl := Option.some.inj hv
    cases t <;> exact .sc _
  · obtain rfl := hu.sc_inv
    obtain rfl := hu'.sc_inv
    obtain rfl := Option.some.inj hv
    cases t <;> exact .sc _
  · obtain rfl := hu.sc_inv
    obtain rfl := hu'.sc_inv
    obtain rfl := Option.some.inj hv
    cases t <;> exact .sc _
  · cases hv

theorem evLen_ok (hty : ∀ t i, C.ty t = some i → tyOf C.P t = some i) (h : R β s a w g pm) {t T e : TypeId} {u : V} {x : Value} {n : Nat} (hu : VR w (okc β pm) g s.len u x) (ht : C.P.underlying t = some (.slice e)) (hv : evLen s u = some n) :
    ∀ w', (Builtin.len_ #[t] T #[x]).run C.P w' = .ok (.int .i64 n) w' := by
  have key : ∀ A len cap, x = .slice A len cap → len = n → ∀ w', (Builtin.len_ #[t] T #[x]).run C.P w' = .ok (.int .i64 n) w' := fun A len cap e1 e2 w' => by
    subst e1; subst e2
    simp [Builtin.len_, run_underlying ht, goInt]
  unfold evLen at hv
  split at hv
  · obtain rfl := hu.sc_inv
    obtain rfl := Option.some.inj hv
    exact key _ _ _ rfl rfl
  · obtain rfl := Option.some.inj hv
    cases hu with
    | sh n es c hc => obtain ⟨A, cap, rfl, _⟩ := hc.sl_len; exact key _ _ _ rfl rfl
  · rename_i r p
    split at hv
    case h_2 => cases hv
    rename_i es dd nn hat
    obtain rfl := Option.some.inj hv
    cases hu with
    | hdr r p n c hn hc =>
      have hne : n = es.length := by unfold St.len at hn; rw [hat] at hn; exact (Option.some.inj hn).symm
      obtain ⟨A, cap, rfl⟩ := hc.len
      exact key _ _ _ rfl hne
  · obtain rfl := Option.some.inj hv
    cases hu with
    | part r p o len n c hn hl hc => obtain ⟨A, cap, rfl⟩ := hc.len; exact key _ _ _ rfl rfl
  · cases hv

theorem mapL_ok (h : R β s a w g pm) : ∀ (l : List Operand), ∀ (k : Nat) (v : V) (x : Value), (l.map s.opd)[k]? = some v → (l.map a.eval)[k]? = some x → VR w (okc β pm) g s.len v x := fun l k v x hv hx => by
  rw [List.getElem?_map] at hv hx
  cases hl : l[k]? with
  | none => rw [hl] at hv; cases hv
  | some o =>
    rw [hl] at hv hx
    obtain rfl := Option.some.inj hv
    obtain rfl := Option.some.inj hx
    exact h.opd o

theorem evV_ok (hty : ∀ t i, C.ty t = some i → tyOf C.P t = some i) (h : R β s a w g pm) {o : Oper} {v : V} (hv : evV C s o = some v) :
    ∃ z, (∀ w', Kp w w' → (execOp a.eval o).run C.P w' = .ok (.value z) w') ∧ VR w (okc β pm) g s.len v z := by
  obtain ⟨dst, op, type, pos, after, guard⟩ := o
  unfold evV at hv
  dsimp only at hv
  unfold execOp
  cases op <;> dsimp only at hv ⊢ <;> (try (cases hv; done))
  case move x => obtain rfl := Option.some.inj hv; exact ⟨_, fun _ _ => rfl, h.opd x⟩
  case assign x => obtain rfl := Option.some.inj hv; exact ⟨_, fun _ _ => rfl, h.opd x⟩
  case pick c p q =>
    obtain ⟨t, e, hz⟩ := evPick_ok (h.opd c) (h.opd p) (h.opd q) hv
    exact ⟨_, fun w' _ => by simp [e, asBool], hz⟩
  case load t x =>
    obtain ⟨z, e, hz⟩ := evLoad_ok hty h (h.opd x) hv
    exact ⟨z, fun w' hkp => by simp [e w' hkp], hz⟩
  case binOp op t x y t' =>
    obtain ⟨z, e, hz⟩ := evBin_ok (C := C) (t := t) (X := x) (Y := y) (h.opd x) (h.opd y) hv
    refine ⟨z, fun w' hkp => ?_, hz⟩
    rw [Sem.run_bind, e w']; rfl
  case unOp op t x =>
    obtain ⟨z, e, hz⟩ := evUn_ok (P := C.P) (h.opd x) hv
    exact ⟨z, fun w' hkp => by simp [e w'], hz⟩
  case convert t t' x =>
    obtain ⟨z, e, hz⟩ := evConv_ok hty (h.opd x) hv
    exact ⟨z, fun w' hkp => by simp [e w' hkp], hz⟩
  case makeFunc fn fs cs =>
    split at hv
    case h_2 => cases hv
    rename_i f hfs
    obtain rfl := Option.some.inj hv
    refine ⟨_, fun _ _ => rfl, ?_⟩
    have e : fs.map a.eval = #[] := by
      have : fs = #[] := by cases fs; simpa using hfs
      rw [this]; simp
    rw [e]
    have := VR.fn (w := w) (ok := okc β pm) (g := g) (at_ := s.len) f (cs.toList.map s.opd) (cs.toList.map a.eval) (by simp) (mapL_ok h cs.toList)
    have e2 : (cs.toList.map a.eval).toArray = cs.map a.eval := by apply Array.ext'; simp
    rw [e2] at this
    exact this
  case slice t x lo hi mx =>
    cases mx with
    | some m => cases hv
    | none =>
      obtain ⟨z, e, hz⟩ := evSlice_ok hty h (h.opd x) hv
      exact ⟨z, fun w' hkp => by simp [e w' hkp], hz⟩
  case fieldAddr t x f =>
    obtain ⟨z, e, hz⟩ := evFieldAddr_ok hty (h.opd x) hv
    exact ⟨z, fun w' hkp => by simp [e w'], hz⟩
  case indexAddr t x i =>
    obtain ⟨z, e, hz⟩ := evIndexAddr_ok hty h (h.opd x) (h.opd i) hv
    exact ⟨z, fun w' hkp => by simp [e w'], hz⟩
  case index t x i =>
    obtain ⟨z, e, hz⟩ := evIndex_ok hty (h.opd x) (h.opd i) hv
    exact ⟨z, fun w' hkp => by simp [e w' hkp], hz⟩
  case extract x i =>
    split at hv
    case h_2 => cases hv
    rename_i _ vs hx
    have hxx := h.opd x
    rw [hx] at hxx
    generalize he : a.eval x = z at hxx
    cases hxx with
    | tup vs xs hl hk =>
      have hi : i < vs.length := (List.getElem?_eq_some_iff.1 hv).1
      refine ⟨xs[i], fun w' _ => ?_, hk i v _ hv (List.getElem?_eq_getElem (by omega))⟩
      simp [Instr.extract, List.getElem?_eq_getElem (show i < xs.length by omega)]
  case call c =>
    obtain ⟨callee, args, argTypes⟩ := c
    dsimp only at hv
    split at hv
    case h_2 => cases hv
    split at hv
    case h_2 => cases hv
    rename_i x t e1 e2
    obtain rfl : args = #[x] := by cases args; simpa using e1
    obtain rfl : argTypes = #[t] := by cases argTypes; simpa using e2
    split at hv
    · rename_i _ sz zz by_ ht
      obtain ⟨info, d, z, h1, h2, h3, h4⟩ := ty_info (hty t _ ht)
      simp only [TyI.mk.injEq] at h4
      obtain rfl := knOf_str h4.2.1.symm
      split at hv
      case h_2 => cases hv
      rename_i _ b hb
      obtain rfl := Option.some.inj hv
      have hxx := h.opd x
      rw [hb] at hxx
      refine ⟨_, fun w' _ => ?_, .sc _⟩
      simp [resolve, invoke, builtin, hxx.sc_inv, Builtin.len_, run_underlying h2, goInt]
    · rename_i _ sz e zz by_ ht
      obtain ⟨info, d, z, h1, h2, h3, h4⟩ := ty_info (hty t _ ht)
      simp only [TyI.mk.injEq] at h4
      obtain rfl := knOf_slice h4.2.1.symm
      split at hv
      case h_2 => cases hv
      rename_i _ n hn
      obtain rfl := Option.some.inj hv
      refine ⟨_, fun w' _ => ?_, .sc _⟩
      have := evLen_ok (T := type) hty h (h.opd x) h2 hn w'
      simp [resolve, invoke, builtin, this]
    · cases hv
end
end Ev
namespace Ev
open Go Go.RowKit
set_option linter.unusedVariables false
set_option linter.unusedSimpArgs false
section
variable {β : Base} {s : St} {a : Act} {w : World} {g : Gh} {pm : Nat → Nat → Option (Nat × Path)} {C : Ctx}

def St.put (s : St) (d : Nat) (v : V) : St := { s with tm := (d, v) :: s.tm }
theorem R.put (h : R β s a w g pm) {v : V} {x : Value} (hv : VR w (okc β pm) g s.len v x) {d : Nat} (hd : d < s.fz) : R β (s.put d v) (a.put (some d) x) w g pm where
  defers := h.defers
  fsz := by show (a.tmps.setIfInBounds d x).size = s.fz; rw [Array.size_setIfInBounds]; exact h.fsz
  tm t := by
    show VR w (okc β pm) g s.len (look .dead ((d, v) :: s.tm) t) ((a.tmps.setIfInBounds d x).getD t undef)
    rw [look_cons]
    have hsz := h.fsz
    by_cases e : d = t
    · subst e
      rw [if_pos rfl]
      have : (a.tmps.setIfInBounds d x).getD d undef = x := by simp [Array.getD, hsz, hd]
      rw [this]; exact hv
    · rw [if_neg e]
      have : (a.tmps.setIfInBounds d x).getD t undef = a.tmps.getD t undef := by
        simp only [Array.getD_eq_getD_getElem?, Array.getElem?_setIfInBounds_ne e]
      rw [this]; exact h.tm t
  blk := h.blk
  fresh := h.fresh
  own := h.own
  keep := h.keep
  low := h.low
  ngnx := h.ngnx
  top := h.top

/-- A cell without a place of its own beneath it. -/
def Plain (d : Bool) : V → Prop
  | .own _ _ _ => False
  | .sl _ _ => d = false
  | _ => True

def St.newOb (s : St) (o : Ob) : St := { s with ob := (s.nx, some o) :: s.ob, nx := s.nx + 1 }
theorem St.shape_newOb (s : St) (o : Ob) {k : Nat} (h : k < s.nx) : (s.newOb o).shape k = s.shape k := by
  unfold St.shape St.obj St.newOb
  dsimp only
  rw [look_cons, if_neg (by omega)]
def newSz (n : Nat) (hs : Nat → Nat) : Path → Nat
  | [] => n
  | [(_, j)] => hs j
  | _ => 0
def newCap (cap : Nat) : Path → Nat
  | [] => cap
  | _ => 0
def newNl : Path → Bool
  | [] => false
  | _ => true
def newGh (g : Gh) (r b n cap : Nat) (hs : Nat → Nat) : Gh :=
  ⟨fun q p => if q = r then b else g.blk q p, fun q p => if q = r then 0 else g.off q p, fun q p => if q = r then newSz n hs p else g.sz q p, fun q p => if q = r then newCap cap p else g.cap q p, fun q p => if q = r then newNl p else g.nl q p⟩
/-- A cell without a place beneath it but that of a nil slice. -/
def PlainZ (d : Bool) (hs : Nat → Nat) (j : Nat) (v : V) : Prop := Plain d v ∨ (d = true ∧ v = .sl (hs j) [])
def newPm (pm : Nat → Nat → Option (Nat × Path)) (b r : Nat) : Nat → Nat → Option (Nat × Path) := fun b' o => if b' = b then some (r, []) else pm b' o

theorem sub_plain {d : Bool} {n : Nat} {es : List (List V)} (hp : ∀ (i j : Nat) (e : List V) (v : V), es[i]? = some e → e[j]? = some v → Plain d v) (x : Nat × Nat) (p : Path) : sub d n es (x :: p) = none := by
  obtain ⟨i, j⟩ := x
  unfold sub
  cases he : es[i]? with
  | none => rfl
  | some e =>
    dsimp only
    cases hv : e[j]? with
    | none => rfl
    | some v =>
      have := hp i j e v he hv
      cases v with
      | own d' n' e' => exact this.elim
      | sl n' e' => cases d with
        | true => exact absurd (show true = false from this) (by decide)
        | false => rfl
      | _ => rfl
theorem sub_plainZ {d : Bool} {n : Nat} {es : List (List V)} {hs : Nat → Nat} (hp : ∀ (i j : Nat) (e : List V) (v : V), es[i]? = some e → e[j]? = some v → PlainZ d hs j v) {x : Nat × Nat} {p : Path} {e' : List (List V)} {d' : Bool} {n' : Nat} (h : sub d n es (x :: p) = some (e', d', n')) :
    p = [] ∧ e' = [] ∧ n' = hs x.2 := by
  obtain ⟨i, j⟩ := x
  unfold sub at h
  cases he : es[i]? with
  | none => rw [he] at h; cases h
  | some e =>
    rw [he] at h
    dsimp only at h
    cases hv : e[j]? with
    | none => rw [hv] at h; cases h
    | some v =>
      rw [hv] at h
      rcases hp i j e v he hv with hpl | ⟨rfl, rfl⟩
      · cases v with
        | own d1 n1 e1 => exact hpl.elim
        | sl n1 e1 => cases d with
          | true => exact absurd (show true = false from hpl) (by decide)
          | false => cases h
        | _ => cases h
      · cases p with
        | nil =>
          obtain ⟨rfl, rfl, rfl⟩ : [] = e' ∧ true = d' ∧ hs j = n' := by simpa [sub] using h
          exact ⟨rfl, rfl, rfl⟩
        | cons y p => simp [sub] at h
theorem St.at_newOb (s : St) (o : Ob) (r : Nat) (p : Path) : (s.newOb o).at r p = if s.nx = r then sub o.deep o.sz o.es p else s.at r p := by
  unfold St.at St.obj St.newOb
  dsimp only
  rw [look_cons]
  by_cases e : s.nx = r
  · rw [if_pos e, if_pos e]
  · rw [if_neg e, if_neg e]
theorem St.at_fresh (h : R β s a w g pm) {r : Nat} (hr : s.nx ≤ r) (p : Path) : s.at r p = none := by unfold St.at; rw [h.fresh r hr]
theorem push_cell (w : World) (o : Obj) {b : Nat} (hb : b ≠ w.heap.size) (o' : Nat) : ({ w with heap := w.heap.push o } : World).cell? ⟨b, o', none⟩ = w.cell? ⟨b, o', none⟩ ∧ ({ w with heap := w.heap.push o } : World).frozen? ⟨b, o', none⟩ = w.frozen? ⟨b, o', none⟩ := by
  unfold World.cell? World.frozen?
  simp only [Array.getElem?_push, if_neg hb]
  exact ⟨trivial, trivial⟩
theorem push_new (w : World) (cs : Array Value) (t : TypeId) (o : Nat) : ({ w with heap := w.heap.push (.cells cs t) } : World).cell? ⟨w.heap.size, o, none⟩ = cs[o]? ∧ ({ w with heap := w.heap.push (.cells cs t) } : World).frozen? ⟨w.heap.size, o, none⟩ = false := by
  unfold World.cell? World.frozen?
  simp
theorem push_keeps (w : World) (cs : Array Value) (t : TypeId) : Keeps (fun _ _ => none) w { w with heap := w.heap.push (.cells cs t) } := by
  have hb : ∀ b, b < w.heap.size → (w.heap.push (.cells cs t))[b]? = w.heap[b]? := fun b hb => by
    rw [Array.getElem?_push, if_neg (by omega)]
  refine ⟨rfl, rfl, rfl, by simp, fun b hlt _ => hb b hlt, fun b o hlt _ => ?_⟩
  unfold World.cell? World.frozen?
  dsimp only
  rw [hb b hlt]
  exact ⟨rfl, rfl⟩
theorem cell_low {w : World} {b o : Nat} {c : Value} (h : w.cell? ⟨b, o, none⟩ = some c) : b < w.heap.size := by
  unfold World.cell? at h
  rcases Nat.lt_or_ge b w.heap.size with hb | hb
  · exact hb
  · dsimp only at h; rw [Array.getElem?_eq_none hb] at h; cases h

/-- A new object. -/
theorem R.allocZ (h : R β s a w g pm) {es : List (List V)} {d bx : Bool} {n cap : Nat} (hs : Nat → Nat) {cs : Array Value} (t : TypeId) (hrow : ∀ (i : Nat) (e : List V), es[i]? = some e → e.length = n) (hlen : es.length ≤ cap) (hsize : cs.size = cap * n)
    (hc : ∀ (i j : Nat) (e : List V) (v : V), es[i]? = some e → e[j]? = some v → ∃ c, cs[i * n + j]? = some c ∧ ((Plain d v ∧ CR w (okc β pm) g s.nx [] d i j v c) ∨ (d = true ∧ v = .sl (hs j) [] ∧ c = .slice none 0 0))) :
    R β (s.newOb ⟨es, d, n, bx⟩) a { w with heap := w.heap.push (.cells cs t) } (newGh g s.nx w.heap.size n cap hs) (newPm pm w.heap.size s.nx) ∧
    ∀ v x, VR w (okc β pm) g s.len v x → VR { w with heap := w.heap.push (.cells cs t) } (okc β (newPm pm w.heap.size s.nx)) (newGh g s.nx w.heap.size n cap hs) (s.newOb ⟨es, d, n, bx⟩).len v x := by
  have hz : ∀ (i j : Nat) (e : List V) (v : V), es[i]? = some e → e[j]? = some v → PlainZ d hs j v := fun i j e v he hv => by
    obtain ⟨c, _, h1 | h1⟩ := hc i j e v he hv
    · exact .inl h1.1
    · exact .inr ⟨h1.1, h1.2.1⟩
  have hk : ∀ b o c, okc β pm b o → w.cell? ⟨b, o, none⟩ = some c → okc β (newPm pm w.heap.size s.nx) b o ∧ ({ w with heap := w.heap.push (.cells cs t) } : World).cell? ⟨b, o, none⟩ = some c := fun b o c h1 h2 => by
    have hb := cell_low h2
    refine ⟨⟨?_, h1.2⟩, ?_⟩
    · show (if b = w.heap.size then _ else _) = _
      rw [if_neg (by omega)]; exact h1.1
    · rw [(push_cell w _ (by omega) o).1]; exact h2
  have hsame : ∀ r p, r ≠ s.nx → SameGh g (newGh g s.nx w.heap.size n cap hs) r r p p := fun r p hr => by
    unfold SameGh newGh; simp only [if_neg hr]; exact ⟨trivial, trivial, trivial, trivial, trivial⟩
  have hnone : ∀ r p, s.at r p ≠ none → r ≠ s.nx := fun r p hat hr => hat (by rw [hr]; exact St.at_fresh h (Nat.le_refl _) p)
  have hlenE : ∀ r p m, s.len r p = some m → (s.newOb ⟨es, d, n, bx⟩).len r p = some m ∧ SameGh g (newGh g s.nx w.heap.size n cap hs) r r p p := fun r p m hm => by
    have hr := hnone r p (fun e => by unfold St.len at hm; rw [e] at hm; cases hm)
    refine ⟨?_, hsame r p hr⟩
    unfold St.len at hm ⊢
    rw [St.at_newOb, if_neg (fun e => hr e.symm)]; exact hm
  refine ⟨?_, fun v x hv => hv.mono hk hlenE⟩
  exact {
    defers := h.defers
    fsz := h.fsz
    tm := fun u => (h.tm u).mono hk hlenE
    blk := fun r p e' d' n' hat => by
      rw [St.at_newOb] at hat
      by_cases hr : s.nx = r
      · rw [if_pos hr] at hat
        subst hr
        cases p with
        | cons x p =>
          obtain ⟨rfl, rfl, rfl⟩ := sub_plainZ hz hat
          obtain ⟨i, j⟩ := x
          exact ⟨by simp [newGh, newSz], fun _ => rfl, by simp [newGh, newCap], fun i e he => by simp at he, fun hn => by simp [newGh, newNl] at hn, fun i j e v he => by simp at he⟩
        | nil =>
          obtain ⟨rfl, rfl, rfl⟩ : es = e' ∧ d = d' ∧ n = n' := by simpa [sub] using hat
          refine ⟨?_, fun hnl => ?_, ?_, fun i e he => ?_, fun _ k hkk => ?_, fun i j e v he hv => ?_⟩
          · simp [newGh, newSz]
          · simp [newGh, newNl] at hnl
          · simp only [newGh, if_true, newCap]; exact hlen
          · simp only [newGh, if_true, newSz]; exact hrow i e he
          · simp only [newGh, if_true, Nat.zero_add, newSz, newCap] at hkk ⊢
            refine ⟨by simp [newPm], (push_new w cs t k).2, ?_⟩
            rw [(push_new w cs t k).1, Array.getElem?_eq_getElem (by omega)]; rfl
          · obtain ⟨c, c1, c2⟩ := hc i j e v he hv
            refine ⟨c, ?_, ?_⟩
            · simp only [newGh, if_true, Nat.zero_add, newSz]
              rw [(push_new w cs t _).1]; exact c1
            · rcases c2 with ⟨hpl, c2⟩ | ⟨rfl, rfl, rfl⟩
              · refine CR.mono hk (fun hx => ?_) c2
                rcases hx with ⟨_, _, _, rfl⟩ | ⟨_, _, rfl, rfl⟩
                · exact hpl.elim
                · exact absurd (show true = false from hpl) (by decide)
              · exact .inl ⟨by simp [newGh, newNl], rfl, rfl⟩
      · rw [if_neg hr] at hat
        have hb := h.blk r p e' d' n' hat
        obtain ⟨e1, e2, e3, e4, e5⟩ := hsame r p (fun e => hr e.symm)
        have hm : ∀ k, Mine w pm r p (g.blk r p) (g.off r p + k) → Mine { w with heap := w.heap.push (.cells cs t) } (newPm pm w.heap.size s.nx) r p (g.blk r p) (g.off r p + k) := fun k hkk => by
          have hlow := h.low (g.blk r p) (g.off r p + k) (by rw [hkk.1]; simp)
          refine ⟨?_, ?_, ?_⟩
          · show (if _ = _ then _ else _) = _
            rw [if_neg (by omega)]; exact hkk.1
          · rw [(push_cell w _ (by omega) _).2]; exact hkk.2.1
          · rw [(push_cell w _ (by omega) _).1]; exact hkk.2.2
        refine ⟨by rw [e3]; exact hb.siz, by rw [e5]; exact hb.nil, by rw [e4]; exact hb.len, by rw [e3]; exact hb.row, ?_, fun i j e v he hv => ?_⟩
        · rw [e1, e2, e3, e4, e5]; exact fun hn k hkk => hm k (hb.mine hn k hkk)
        · obtain ⟨c, c1, c2⟩ := hb.cell i j e v he hv
          refine ⟨c, ?_, CR.mono hk (fun _ => hsame _ _ (fun e => hr e.symm)) c2⟩
          rw [e1, e2, e3, (push_cell w _ (by have := cell_low c1; omega) _).1]; exact c1
    fresh := fun r hr => by
      show look none ((s.nx, some _) :: s.ob) r = none
      have hr : s.nx + 1 ≤ r := hr
      rw [look_cons, if_neg (by omega)]; exact h.fresh r (by omega)
    own := fun b o hb => by
      by_cases e : b = w.heap.size
      · exact .inr (by rw [e]; exact h.keep.size)
      · have : newPm pm w.heap.size s.nx b o = pm b o := by show (if _ = _ then _ else _) = _; rw [if_neg e]
        rw [this] at hb; exact h.own b o hb
    keep := {
      os := h.keep.os, tape := h.keep.tape, output := h.keep.output
      size := by show β.w0.heap.size ≤ (w.heap.push _).size; rw [Array.size_push]; have := h.keep.size; omega
      block := fun b hb h0 => by
        have := h.keep.size
        show (w.heap.push _)[b]? = _
        rw [Array.getElem?_push, if_neg (by omega)]; exact h.keep.block b hb h0
      cell := fun b o hb h0 => by
        have := h.keep.size
        rw [(push_cell w _ (by omega) o).1, (push_cell w _ (by omega) o).2]; exact h.keep.cell b o hb h0 }
    low := fun b o hb => by
      show b < (w.heap.push _).size
      rw [Array.size_push]
      by_cases e : b = w.heap.size
      · omega
      · have : newPm pm w.heap.size s.nx b o = pm b o := by show (if _ = _ then _ else _) = _; rw [if_neg e]
        rw [this] at hb; have := h.low b o hb; omega
    ngnx := Nat.le_succ_of_le h.ngnx
    top := fun k hk => by
      have hk' : k < s.nx := Nat.lt_of_lt_of_le hk h.ngnx
      obtain ⟨t1, t2⟩ := h.top k hk
      refine ⟨?_, by rw [St.shape_newOb _ _ hk']; exact t2⟩
      obtain ⟨e1, e2, e3, e4, e5⟩ := hsame k [] (by omega)
      exact ⟨e1.trans t1.1, e2.trans t1.2.1, e3.trans t1.2.2.1, e4.trans t1.2.2.2.1, e5.trans t1.2.2.2.2⟩ }
end
end Ev
namespace Ev
open Go Go.RowKit
set_option linter.unusedVariables false
set_option linter.unusedSimpArgs false

/-- The same but for what stands beneath. -/
def Sim (d : Bool) (u v : V) : Prop :=
  u = v ∨ (∃ d' n e e', u = .own d' n e ∧ v = .own d' n e' ∧ e.length = e'.length) ∨ (∃ n e e', u = .sl n e ∧ v = .sl n e' ∧ d = true ∧ e.length = e'.length)
structure SimL (d : Bool) (es es' : List (List V)) : Prop where
  len : es.length = es'.length
  row : ∀ (i : Nat) (e e' : List V), es[i]? = some e → es'[i]? = some e' → e.length = e'.length ∧ ∀ (j : Nat) (u v : V), e[j]? = some u → e'[j]? = some v → Sim d u v
theorem SimL.refl (d : Bool) (es : List (List V)) : SimL d es es := ⟨rfl, fun i e e' h h' => by
  rw [h] at h'
  obtain rfl := Option.some.inj h'
  exact ⟨rfl, fun j u v hu hv => by rw [hu] at hv; exact .inl (Option.some.inj hv)⟩⟩
theorem SimL.set {d : Bool} {es : List (List V)} {i j : Nat} {c : List V} {u v : V} (hi : es[i]? = some c) (hj : c[j]? = some u) (h : Sim d u v) : SimL d es (es.set i (c.set j v)) := ⟨by rw [List.length_set], fun i' e e' he he' => by
  by_cases hii : i = i'
  · subst hii
    rw [hi] at he
    obtain rfl := Option.some.inj he
    rw [List.getElem?_set_self (List.getElem?_eq_some_iff.1 hi).1] at he'
    obtain rfl := Option.some.inj he'
    refine ⟨by rw [List.length_set], fun j' p q hp hq => ?_⟩
    by_cases hjj : j = j'
    · subst hjj
      rw [hj] at hp
      obtain rfl := Option.some.inj hp
      rw [List.getElem?_set_self (List.getElem?_eq_some_iff.1 hj).1] at hq
      obtain rfl := Option.some.inj hq
      exact h
    · rw [List.getElem?_set_ne hjj, hp] at hq
      exact .inl (Option.some.inj hq)
  · rw [List.getElem?_set_ne hii, he] at he'
    obtain rfl := Option.some.inj he'
    exact ⟨rfl, fun j u v hu hv => by rw [hu] at hv; exact .inl (Option.some.inj hv)⟩⟩

theorem putAt_at (f : List (List V) → List (List V)) {d : Bool} {n : Nat} {es : List (List V)} {p : Path} {ep : List (List V)} {dp : Bool} {np : Nat} (h : sub d n es p = some (ep, dp, np)) (q : Path) : sub d n (putAt f es p) (p ++ q) = sub dp np (f ep) q := by
  induction p generalizing d n es with
  | nil =>
    obtain ⟨rfl, rfl, rfl⟩ : es = ep ∧ d = dp ∧ n = np := by simpa [sub] using h
    rfl
  | cons x p ih =>
    obtain ⟨i, j⟩ := x
    simp only [sub] at h
    cases he : es[i]? with
    | none => rw [he] at h; cases h
    | some c =>
      rw [he] at h
      dsimp only at h
      have hi := (List.getElem?_eq_some_iff.1 he).1
      cases hv : c[j]? with
      | none => rw [hv] at h; cases h
      | some v =>
        rw [hv] at h
        have hj := (List.getElem?_eq_some_iff.1 hv).1
        cases v with
        | own d' n' e =>
          have := ih (d := d') (n := n') (es := e) h
          simp only [putAt, he, hv, List.cons_append, sub, List.getElem?_set_self hi, List.getElem?_set_self hj]
          exact this
        | sl n' e =>
          cases d with
          | true =>
            have := ih (d := true) (n := n') (es := e) h
            simp only [putAt, he, hv, List.cons_append, sub, List.getElem?_set_self hi, List.getElem?_set_self hj]
            exact this
          | false => cases h
        | _ => cases h

theorem putAt_length (f : List (List V) → List (List V)) (hf : ∀ es, (f es).length = es.length) (es : List (List V)) (p : Path) : (putAt f es p).length = es.length := by
  cases p with
  | nil => exact hf es
  | cons x p =>
    obtain ⟨i, j⟩ := x
    unfold putAt
    split
    · split
      · rw [List.length_set]
      · rw [List.length_set]
      · rfl
    · rfl

theorem putAt_other (f : List (List V) → List (List V)) (hf : ∀ es, (f es).length = es.length) {d : Bool} {n : Nat} {es : List (List V)} {p : Path} {ep : List (List V)} {dp : Bool} {np : Nat} (h : sub d n es p = some (ep, dp, np)) {q : Path} (hq : ¬ p <+: q)
    {e' : List (List V)} {d' : Bool} {n' : Nat} (hs : sub d n (putAt f es p) q = some (e', d', n')) : ∃ e0, sub d n es q = some (e0, d', n') ∧ SimL d' e0 e' := by
  induction p generalizing d n es q with
  | nil => exact absurd (List.nil_prefix) hq
  | cons x p ih =>
    obtain ⟨i, j⟩ := x
    simp only [sub] at h
    cases he : es[i]? with
    | none => rw [he] at h; cases h
    | some c =>
      rw [he] at h
      dsimp only at h
      have hi := (List.getElem?_eq_some_iff.1 he).1
      cases hv : c[j]? with
      | none => rw [hv] at h; cases h
      | some v =>
        rw [hv] at h
        have hj := (List.getElem?_eq_some_iff.1 hv).1
        have main : ∀ (X : V) (e1 : List (List V)) (d1 : Bool) (n1 : Nat), putAt f es ((i, j) :: p) = es.set i (c.set j X) → Sim d v X → (∀ q, sub d n es ((i, j) :: q) = sub d1 n1 e1 q) → (∀ q, sub d n (es.set i (c.set j X)) ((i, j) :: q) = sub d1 n1 (putAt f e1 p) q) → sub d1 n1 e1 p = some (ep, dp, np) →
            ∃ e0, sub d n es q = some (e0, d', n') ∧ SimL d' e0 e' := fun X e1 d1 n1 hput hsim ha hb h1 => by
          rw [hput] at hs
          cases q with
          | nil =>
            obtain ⟨rfl, rfl, rfl⟩ : es.set i (c.set j X) = e' ∧ d = d' ∧ n = n' := by simpa [sub] using hs
            exact ⟨es, rfl, SimL.set he hv hsim⟩
          | cons y q =>
            obtain ⟨i', j'⟩ := y
            by_cases hij : i = i' ∧ j = j'
            · obtain ⟨rfl, rfl⟩ := hij
              rw [hb] at hs
              rw [ha]
              exact ih h1 (fun hpre => hq (by obtain ⟨t, ht⟩ := hpre; exact ⟨t, by rw [List.cons_append, ht]⟩)) hs
            · have : sub d n (es.set i (c.set j X)) ((i', j') :: q) = sub d n es ((i', j') :: q) := by
                simp only [sub]
                by_cases hii : i = i'
                · subst hii
                  have hjj : j ≠ j' := fun e => hij ⟨rfl, e⟩
                  rw [List.getElem?_set_self hi, he]
                  dsimp only
                  rw [List.getElem?_set_ne hjj]
                · rw [List.getElem?_set_ne hii]
              rw [this] at hs
              exact ⟨e', hs, SimL.refl _ _⟩
        cases v with
        | own d1 n1 e1 =>
          exact main (.own d1 n1 (putAt f e1 p)) e1 d1 n1 (by simp only [putAt, he, hv]) (.inr (.inl ⟨d1, n1, e1, _, rfl, rfl, (putAt_length f hf e1 p).symm⟩)) (fun q => by simp only [sub, he, hv]) (fun q => by simp only [sub, List.getElem?_set_self hi, List.getElem?_set_self hj]) h
        | sl n1 e1 =>
          cases d with
          | true => exact main (.sl n1 (putAt f e1 p)) e1 true n1 (by simp only [putAt, he, hv]) (.inr (.inr ⟨n1, e1, _, rfl, rfl, rfl, (putAt_length f hf e1 p).symm⟩)) (fun q => by simp only [sub, he, hv]) (fun q => by simp only [sub, List.getElem?_set_self hi, List.getElem?_set_self hj]) h
          | false => cases h
        | _ => cases h

theorem putAt_keeps (f : List (List V) → List (List V)) (hf : ∀ es, (f es).length = es.length) {d : Bool} {n : Nat} {es : List (List V)} {p : Path} {ep : List (List V)} {dp : Bool} {np : Nat} (h : sub d n es p = some (ep, dp, np)) {q : Path} (hq : ¬ p <+: q)
    {e' : List (List V)} {d' : Bool} {n' : Nat} (hs : sub d n es q = some (e', d', n')) : ∃ e0, sub d n (putAt f es p) q = some (e0, d', n') ∧ SimL d' e' e0 := by
  induction p generalizing d n es q with
  | nil => exact absurd (List.nil_prefix) hq
  | cons x p ih =>
    obtain ⟨i, j⟩ := x
    simp only [sub] at h
    cases he : es[i]? with
    | none => rw [he] at h; cases h
    | some c =>
      rw [he] at h
      dsimp only at h
      have hi := (List.getElem?_eq_some_iff.1 he).1
      cases hv : c[j]? with
      | none => rw [hv] at h; cases h
      | some v =>
        rw [hv] at h
        have hj := (List.getElem?_eq_some_iff.1 hv).1
        have main : ∀ (X : V) (e1 : List (List V)) (d1 : Bool) (n1 : Nat), putAt f es ((i, j) :: p) = es.set i (c.set j X) → Sim d v X → (∀ q, sub d n es ((i, j) :: q) = sub d1 n1 e1 q) → (∀ q, sub d n (es.set i (c.set j X)) ((i, j) :: q) = sub d1 n1 (putAt f e1 p) q) → sub d1 n1 e1 p = some (ep, dp, np) →
            ∃ e0, sub d n (putAt f es ((i, j) :: p)) q = some (e0, d', n') ∧ SimL d' e' e0 := fun X e1 d1 n1 hput hsim ha hb h1 => by
          rw [hput]
          cases q with
          | nil =>
            obtain ⟨rfl, rfl, rfl⟩ : es = e' ∧ d = d' ∧ n = n' := by simpa [sub] using hs
            exact ⟨_, rfl, SimL.set he hv hsim⟩
          | cons y q =>
            obtain ⟨i', j'⟩ := y
            by_cases hij : i = i' ∧ j = j'
            · obtain ⟨rfl, rfl⟩ := hij
              rw [ha] at hs
              rw [hb]
              exact ih h1 (fun hpre => hq (by obtain ⟨t, ht⟩ := hpre; exact ⟨t, by rw [List.cons_append, ht]⟩)) hs
            · have : sub d n (es.set i (c.set j X)) ((i', j') :: q) = sub d n es ((i', j') :: q) := by
                simp only [sub]
                by_cases hii : i = i'
                · subst hii
                  have hjj : j ≠ j' := fun e => hij ⟨rfl, e⟩
                  rw [List.getElem?_set_self hi, he]
                  dsimp only
                  rw [List.getElem?_set_ne hjj]
                · rw [List.getElem?_set_ne hii]
              rw [this]
              exact ⟨e', hs, SimL.refl _ _⟩
        cases v with
        | own d1 n1 e1 =>
          exact main (.own d1 n1 (putAt f e1 p)) e1 d1 n1 (by simp only [putAt, he, hv]) (.inr (.inl ⟨d1, n1, e1, _, rfl, rfl, (putAt_length f hf e1 p).symm⟩)) (fun q => by simp only [sub, he, hv]) (fun q => by simp only [sub, List.getElem?_set_self hi, List.getElem?_set_self hj]) h
        | sl n1 e1 =>
          cases d with
          | true => exact main (.sl n1 (putAt f e1 p)) e1 true n1 (by simp only [putAt, he, hv]) (.inr (.inr ⟨n1, e1, _, rfl, rfl, rfl, (putAt_length f hf e1 p).symm⟩)) (fun q => by simp only [sub, he, hv]) (fun q => by simp only [sub, List.getElem?_set_self hi, List.getElem?_set_self hj]) h
          | false => cases h
        | _ => cases h

theorem CR.sim {w : World} {ok : Nat → Nat → Prop} {g : Gh} {r : Nat} {p : Path} {d : Bool} {i j : Nat} {u v : V} {c : Value} (h : CR w ok g r p d i j u c) (hs : Sim d u v) : CR w ok g r p d i j v c := by
  rcases hs with rfl | ⟨d', n, e, e', rfl, rfl, hl⟩ | ⟨n, e, e', rfl, rfl, rfl, hl⟩
  · exact h
  · show RefHdr g r (p ++ [(i, j)]) 0 e'.length c
    rw [← hl]; exact h
  · show RefHdr g r (p ++ [(i, j)]) 0 e'.length c
    rw [← hl]; exact h
theorem BR.sim {w : World} {ok : Nat → Nat → Prop} {g : Gh} {pm : Nat → Nat → Option (Nat × Path)} {r : Nat} {p : Path} {es es' : List (List V)} {d : Bool} {n : Nat} (h : BR w ok g pm r p es d n) (hs : SimL d es es') : BR w ok g pm r p es' d n := by
  have get : ∀ (i : Nat) (e' : List V), es'[i]? = some e' → ∃ e, es[i]? = some e := fun i e' he => by
    have := (List.getElem?_eq_some_iff.1 he).1
    exact ⟨_, List.getElem?_eq_getElem (by rw [hs.len]; exact this)⟩
  refine ⟨h.siz, fun hn => ?_, by rw [← hs.len]; exact h.len, fun i e' he => ?_, h.mine, fun i j e' v he hv => ?_⟩
  · have h0 := h.nil hn
    have hl := hs.len
    rw [h0] at hl
    exact List.eq_nil_of_length_eq_zero hl.symm
  · obtain ⟨e, h1⟩ := get i e' he
    rw [← (hs.row i e e' h1 he).1]; exact h.row i e h1
  · obtain ⟨e, h1⟩ := get i e' he
    obtain ⟨hl, hc⟩ := hs.row i e e' h1 he
    have hj := (List.getElem?_eq_some_iff.1 hv).1
    obtain ⟨c, c1, c2⟩ := h.cell i j e (e[j]'(by omega)) h1 (List.getElem?_eq_getElem (by omega))
    exact ⟨c, c1, c2.sim (hc j _ v (List.getElem?_eq_getElem (by omega)) hv)⟩

/-- What names a place that is hit is no more. -/
def kill1 (hit : Nat → Path → Bool) : V → V
  | .hdr r p => match hit r p with
    | true => .dead
    | false => .hdr r p
  | .part r p o l => match hit r p with
    | true => .dead
    | false => .part r p o l
  | .ptr r p i j => match hit r p with
    | true => .dead
    | false => .ptr r p i j
  | .sc x => .sc x
  | .sh n es => .sh n es
  | .shp cs => .shp cs
  | .fn f [] => .fn f []
  | _ => .dead
def kill2 (hit : Nat → Path → Bool) : V → V
  | .agg vs => .agg (vs.map (kill1 hit))
  | .bxr vs => .bxr (vs.map (kill1 hit))
  | .fn f cs => .fn f (cs.map (kill1 hit))
  | v => kill1 hit v
def kill (hit : Nat → Path → Bool) : V → V
  | .tup vs => .tup (vs.map (kill2 hit))
  | v => kill2 hit v

theorem VR.kill1 {w w' : World} {ok ok' : Nat → Nat → Prop} {g g' : Gh} {at_ at' : Nat → Path → Option Nat} {hit : Nat → Path → Bool} (hk : ∀ b o c, ok b o → w.cell? ⟨b, o, none⟩ = some c → ok' b o ∧ w'.cell? ⟨b, o, none⟩ = some c)
    (ha : ∀ r p n, at_ r p = some n → hit r p = false → at' r p = some n ∧ SameGh g g' r r p p) {v : V} {x : Value} (h : VR w ok g at_ v x) : VR w' ok' g' at' (Ev.kill1 hit v) x := by
  cases h with
  | sc x => exact .sc _
  | sh n es c h => exact .sh n es _ (h.mono hk)
  | shp cs b o vals h1 h2 => exact .shp cs b o vals (fun j v hv => hk _ _ _ (h1 j v hv).1 (h1 j v hv).2) (fun j v hv => (h2 j v hv).mono hk)
  | hdr r p n c hn h =>
    cases e : hit r p with
    | true => simp only [Ev.kill1, e]; exact .dead _
    | false => simp only [Ev.kill1, e]; obtain ⟨e1, e2⟩ := ha r p n hn e; exact .hdr r p n _ e1 (h.same e2)
  | part r p o len n c hn hl h =>
    cases e : hit r p with
    | true => simp only [Ev.kill1, e]; exact .dead _
    | false => simp only [Ev.kill1, e]; obtain ⟨e1, e2⟩ := ha r p n hn e; exact .part r p o len n _ e1 hl (h.same e2)
  | ptr r p i j n hn hl =>
    cases e : hit r p with
    | true => simp only [Ev.kill1, e]; exact .dead _
    | false =>
      simp only [Ev.kill1, e]
      obtain ⟨e1, e2, e3, e4, e5, e6⟩ := ha r p n hn e
      have := VR.ptr (w := w') (ok := ok') (g := g') (at_ := at') r p i j n e1 (e6 ▸ hl)
      rw [e2, e3, e4] at this; exact this
  | fn f caps xs hl hx =>
    cases caps with
    | nil => exact .fn f [] xs hl (fun k v x hv => by simp at hv)
    | cons => exact .dead _
  | _ => exact .dead _
theorem VR.kill2 {w w' : World} {ok ok' : Nat → Nat → Prop} {g g' : Gh} {at_ at' : Nat → Path → Option Nat} {hit : Nat → Path → Bool} (hk : ∀ b o c, ok b o → w.cell? ⟨b, o, none⟩ = some c → ok' b o ∧ w'.cell? ⟨b, o, none⟩ = some c)
    (ha : ∀ r p n, at_ r p = some n → hit r p = false → at' r p = some n ∧ SameGh g g' r r p p) {v : V} {x : Value} (h : VR w ok g at_ v x) : VR w' ok' g' at' (Ev.kill2 hit v) x := by
  have hl : ∀ (vs : List V) (xs : List Value), (∀ (k : Nat) (v : V) (x : Value), vs[k]? = some v → xs[k]? = some x → VR w ok g at_ v x) → ∀ (k : Nat) (v : V) (x : Value), (vs.map (Ev.kill1 hit))[k]? = some v → xs[k]? = some x → VR w' ok' g' at' v x := fun vs xs h k v x hv hx => by
    rw [List.getElem?_map] at hv
    cases e : vs[k]? with
    | none => rw [e] at hv; cases hv
    | some u =>
      rw [e] at hv
      obtain rfl := Option.some.inj hv
      exact (h k u x e hx).kill1 hk ha
  cases h with
  | agg vs xs hlen hx => exact .agg _ xs (by rw [List.length_map]; exact hlen) (hl vs xs hx)
  | fn f caps xs hlen hx => exact .fn f _ xs (by rw [List.length_map]; exact hlen) (hl caps xs hx)
  | sc x => exact VR.kill1 (hit := hit) hk ha (.sc x)
  | sh n es c h => exact VR.kill1 (hit := hit) hk ha (.sh n es _ h)
  | shp cs b o vals h1 h2 => exact VR.kill1 (hit := hit) hk ha (.shp cs b o vals h1 h2)
  | hdr r p n c hn h => exact VR.kill1 (hit := hit) hk ha (.hdr r p n _ hn h)
  | part r p o len n c hn hl h => exact VR.kill1 (hit := hit) hk ha (.part r p o len n _ hn hl h)
  | ptr r p i j n hn hl => exact VR.kill1 (hit := hit) hk ha (.ptr r p i j n hn hl)
  | tup vs xs hlen hx => exact .dead _
  | bxr vs b o xs h1 hx =>
    refine .bxr _ b o xs (fun j v hv => ?_) (fun j v hv => ?_)
    · rw [List.getElem?_map] at hv
      cases e : vs[j]? with
      | none => rw [e] at hv; cases hv
      | some u => exact hk _ _ _ (h1 j u e).1 (h1 j u e).2
    · rw [List.getElem?_map] at hv
      cases e : vs[j]? with
      | none => rw [e] at hv; cases hv
      | some u =>
        rw [e] at hv
        obtain rfl := Option.some.inj hv
        exact (hx j u e).kill1 hk ha
  | dead c => exact .dead _
theorem VR.kill {w w' : World} {ok ok' : Nat → Nat → Prop} {g g' : Gh} {at_ at' : Nat → Path → Option Nat} {hit : Nat → Path → Bool} (hk : ∀ b o c, ok b o → w.cell? ⟨b, o, none⟩ = some c → ok' b o ∧ w'.cell? ⟨b, o, none⟩ = some c)
    (ha : ∀ r p n, at_ r p = some n → hit r p = false → at' r p = some n ∧ SameGh g g' r r p p) {v : V} {x : Value} (h : VR w ok g at_ v x) : VR w' ok' g' at' (Ev.kill hit v) x := by
  cases h with
  | tup vs xs hlen hx =>
    refine .tup _ xs (by rw [List.length_map]; exact hlen) (fun k v x hv hxx => ?_)
    rw [List.getElem?_map] at hv
    cases e : vs[k]? with
    | none => rw [e] at hv; cases hv
    | some u =>
      rw [e] at hv
      obtain rfl := Option.some.inj hv
      exact (hx k u x e hxx).kill2 hk ha
  | agg vs xs hlen hx => exact VR.kill2 (hit := hit) hk ha (.agg vs xs hlen hx)
  | bxr vs b o xs h1 hx => exact VR.kill2 (hit := hit) hk ha (.bxr vs b o xs h1 hx)
  | fn f caps xs hlen hx => exact VR.kill2 (hit := hit) hk ha (.fn f caps xs hlen hx)
  | sc x => exact VR.kill2 (hit := hit) hk ha (.sc x)
  | sh n es c h => exact VR.kill2 (hit := hit) hk ha (.sh n es _ h)
  | shp cs b o vals h1 h2 => exact VR.kill2 (hit := hit) hk ha (.shp cs b o vals h1 h2)
  | hdr r p n c hn h => exact VR.kill2 (hit := hit) hk ha (.hdr r p n _ hn h)
  | part r p o len n c hn hl h => exact VR.kill2 (hit := hit) hk ha (.part r p o len n _ hn hl h)
  | ptr r p i j n hn hl => exact VR.kill2 (hit := hit) hk ha (.ptr r p i j n hn hl)
  | dead c => exact .dead _
/-- What names a root that has moved names its new place. -/
def mov1 (q r : Nat) (P : Path) : V → V
  | .hdr q' p => match Nat.beq q q' with
    | true => .hdr r (P ++ p)
    | false => .hdr q' p
  | .part q' p o l => match Nat.beq q q' with
    | true => .part r (P ++ p) o l
    | false => .part q' p o l
  | .ptr q' p i j => match Nat.beq q q' with
    | true => .ptr r (P ++ p) i j
    | false => .ptr q' p i j
  | .sc x => .sc x
  | .sh n es => .sh n es
  | .shp cs => .shp cs
  | .fn f [] => .fn f []
  | _ => .dead
def mov2 (q r : Nat) (P : Path) : V → V
  | .agg vs => .agg (vs.map (mov1 q r P))
  | .bxr vs => .bxr (vs.map (mov1 q r P))
  | .fn f cs => .fn f (cs.map (mov1 q r P))
  | v => mov1 q r P v
def mov (q r : Nat) (P : Path) : V → V
  | .tup vs => .tup (vs.map (mov2 q r P))
  | v => mov2 q r P v
theorem VR.mov1 {w w' : World} {ok ok' : Nat → Nat → Prop} {g g' : Gh} {at_ at' : Nat → Path → Option Nat} {q r : Nat} {P : Path} (hk : ∀ b o c, ok b o → w.cell? ⟨b, o, none⟩ = some c → ok' b o ∧ w'.cell? ⟨b, o, none⟩ = some c)
    (ha : ∀ r p n, at_ r p = some n → r ≠ q → at' r p = some n ∧ SameGh g g' r r p p) (hb : ∀ p n, at_ q p = some n → at' r (P ++ p) = some n ∧ SameGh g g' q r p (P ++ p)) {v : V} {x : Value} (h : VR w ok g at_ v x) : VR w' ok' g' at' (Ev.mov1 q r P v) x := by
  cases h with
  | sc x => exact .sc _
  | sh n es c h => exact .sh n es _ (h.mono hk)
  | shp cs b o vals h1 h2 => exact .shp cs b o vals (fun j v hv => hk _ _ _ (h1 j v hv).1 (h1 j v hv).2) (fun j v hv => (h2 j v hv).mono hk)
  | hdr r0 p n c hn h =>
    cases e : Nat.beq q r0 with
    | true => obtain rfl := Nat.eq_of_beq_eq_true e; simp only [Ev.mov1, e]; obtain ⟨e1, e2⟩ := hb p n hn; exact .hdr r _ n _ e1 (h.same e2)
    | false => simp only [Ev.mov1, e]; obtain ⟨e1, e2⟩ := ha r0 p n hn (fun x => by rw [x, Nat.beq_refl] at e; cases e); exact .hdr r0 p n _ e1 (h.same e2)
  | part r0 p o len n c hn hl h =>
    cases e : Nat.beq q r0 with
    | true => obtain rfl := Nat.eq_of_beq_eq_true e; simp only [Ev.mov1, e]; obtain ⟨e1, e2⟩ := hb p n hn; exact .part r _ o len n _ e1 hl (h.same e2)
    | false => simp only [Ev.mov1, e]; obtain ⟨e1, e2⟩ := ha r0 p n hn (fun x => by rw [x, Nat.beq_refl] at e; cases e); exact .part r0 p o len n _ e1 hl (h.same e2)
  | ptr r0 p i j n hn hl =>
    cases e : Nat.beq q r0 with
    | true =>
      obtain rfl := Nat.eq_of_beq_eq_true e
      simp only [Ev.mov1, e]
      obtain ⟨e1, e2, e3, e4, e5, e6⟩ := hb p n hn
      have := VR.ptr (w := w') (ok := ok') (g := g') (at_ := at') r (P ++ p) i j n e1 (e6 ▸ hl)
      rw [e2, e3, e4] at this; exact this
    | false =>
      simp only [Ev.mov1, e]
      obtain ⟨e1, e2, e3, e4, e5, e6⟩ := ha r0 p n hn (fun x => by rw [x, Nat.beq_refl] at e; cases e)
      have := VR.ptr (w := w') (ok := ok') (g := g') (at_ := at') r0 p i j n e1 (e6 ▸ hl)
      rw [e2, e3, e4] at this; exact this
  | fn f caps xs hl hx =>
    cases caps with
    | nil => exact .fn f [] xs hl (fun k v x hv => by simp at hv)
    | cons => exact .dead _
  | _ => exact .dead _
theorem VR.mov2 {w w' : World} {ok ok' : Nat → Nat → Prop} {g g' : Gh} {at_ at' : Nat → Path → Option Nat} {q r : Nat} {P : Path} (hk : ∀ b o c, ok b o → w.cell? ⟨b, o, none⟩ = some c → ok' b o ∧ w'.cell? ⟨b, o, none⟩ = some c)
    (ha : ∀ r p n, at_ r p = some n → r ≠ q → at' r p = some n ∧ SameGh g g' r r p p) (hb : ∀ p n, at_ q p = some n → at' r (P ++ p) = some n ∧ SameGh g g' q r p (P ++ p)) {v : V} {x : Value} (h : VR w ok g at_ v x) : VR w' ok' g' at' (Ev.mov2 q r P v) x := by
  have hl : ∀ (vs : List V) (xs : List Value), (∀ (k : Nat) (v : V) (x : Value), vs[k]? = some v → xs[k]? = some x → VR w ok g at_ v x) → ∀ (k : Nat) (v : V) (x : Value), (vs.map (Ev.mov1 q r P))[k]? = some v → xs[k]? = some x → VR w' ok' g' at' v x := fun vs xs h k v x hv hx => by
    rw [List.getElem?_map] at hv
    cases e : vs[k]? with
    | none => rw [e] at hv; cases hv
    | some u =>
      rw [e] at hv
      obtain rfl := Option.some.inj hv
      exact (h k u x e hx).mov1 hk ha hb
  cases h with
  | agg vs xs hlen hx => exact .agg _ xs (by rw [List.length_map]; exact hlen) (hl vs xs hx)
  | fn f caps xs hlen hx => exact .fn f _ xs (by rw [List.length_map]; exact hlen) (hl caps xs hx)
  | sc x => exact VR.mov1 hk ha hb (.sc x)
  | sh n es c h => exact VR.mov1 hk ha hb (.sh n es _ h)
  | shp cs b o vals h1 h2 => exact VR.mov1 hk ha hb (.shp cs b o vals h1 h2)
  | hdr r p n c hn h => exact VR.mov1 hk ha hb (.hdr r p n _ hn h)
  | part r p o len n c hn hl h => exact VR.mov1 hk ha hb (.part r p o len n _ hn hl h)
  | ptr r p i j n hn hl => exact VR.mov1 hk ha hb (.ptr r p i j n hn hl)
  | tup vs xs hlen hx => exact .dead _
  | bxr vs b o xs h1 hx =>
    refine .bxr _ b o xs (fun j v hv => ?_) (fun j v hv => ?_)
    · rw [List.getElem?_map] at hv
      cases e : vs[j]? with
      | none => rw [e] at hv; cases hv
      | some u => exact hk _ _ _ (h1 j u e).1 (h1 j u e).2
    · rw [List.getElem?_map] at hv
      cases e : vs[j]? with
      | none => rw [e] at hv; cases hv
      | some u =>
        rw [e] at hv
        obtain rfl := Option.some.inj hv
        exact (hx j u e).mov1 hk ha hb
  | dead c => exact .dead _
theorem VR.mov {w w' : World} {ok ok' : Nat → Nat → Prop} {g g' : Gh} {at_ at' : Nat → Path → Option Nat} {q r : Nat} {P : Path} (hk : ∀ b o c, ok b o → w.cell? ⟨b, o, none⟩ = some c → ok' b o ∧ w'.cell? ⟨b, o, none⟩ = some c)
    (ha : ∀ r p n, at_ r p = some n → r ≠ q → at' r p = some n ∧ SameGh g g' r r p p) (hb : ∀ p n, at_ q p = some n → at' r (P ++ p) = some n ∧ SameGh g g' q r p (P ++ p)) {v : V} {x : Value} (h : VR w ok g at_ v x) : VR w' ok' g' at' (Ev.mov q r P v) x := by
  cases h with
  | tup vs xs hlen hx =>
    refine .tup _ xs (by rw [List.length_map]; exact hlen) (fun k v x hv hxx => ?_)
    rw [List.getElem?_map] at hv
    cases e : vs[k]? with
    | none => rw [e] at hv; cases hv
    | some u =>
      rw [e] at hv
      obtain rfl := Option.some.inj hv
      exact (hx k u x e hxx).mov2 hk ha hb
  | agg vs xs hlen hx => exact VR.mov2 hk ha hb (.agg vs xs hlen hx)
  | bxr vs b o xs h1 hx => exact VR.mov2 hk ha hb (.bxr vs b o xs h1 hx)
  | fn f caps xs hlen hx => exact VR.mov2 hk ha hb (.fn f caps xs hlen hx)
  | sc x => exact VR.mov2 hk ha hb (.sc x)
  | sh n es c h => exact VR.mov2 hk ha hb (.sh n es _ h)
  | shp cs b o vals h1 h2 => exact VR.mov2 hk ha hb (.shp cs b o vals h1 h2)
  | hdr r p n c hn h => exact VR.mov2 hk ha hb (.hdr r p n _ hn h)
  | part r p o len n c hn hl h => exact VR.mov2 hk ha hb (.part r p o len n _ hn hl h)
  | ptr r p i j n hn hl => exact VR.mov2 hk ha hb (.ptr r p i j n hn hl)
  | dead c => exact .dead _
def St.killT (s : St) (hit : Nat → Path → Bool) : St := { s with tm := s.tm.map fun x => (x.1, kill hit x.2) }
theorem St.get_killT (s : St) (hit : Nat → Path → Bool) (t : Nat) : (s.killT hit).get t = kill hit (s.get t) := by unfold St.get St.killT; exact look_map V.dead V.dead (kill hit) rfl s.tm t
def St.movT (s : St) (q r : Nat) (P : Path) : St := { s with tm := s.tm.map fun x => (x.1, mov q r P x.2) }
theorem St.get_movT (s : St) (q r : Nat) (P : Path) (t : Nat) : (s.movT q r P).get t = mov q r P (s.get t) := by unfold St.get St.movT; exact look_map V.dead V.dead (mov q r P) rfl s.tm t
end Ev
namespace Ev
open Go Go.RowKit
set_option linter.unusedVariables false
set_option linter.unusedSimpArgs false

def setAt (i j : Nat) (v : V) (es : List (List V)) : List (List V) :=
  match es[i]? with
  | some e => es.set i (e.set j v)
  | none => es
theorem setAt_length (i j : Nat) (v : V) (es : List (List V)) : (setAt i j v es).length = es.length := by
  unfold setAt; split
  · rw [List.length_set]
  · rfl
def isPre : List Nat → List Nat → Bool
  | [], _ => true
  | _ :: _, [] => false
  | a :: l, b :: m => match Nat.beq a b with
    | true => isPre l m
    | false => false
theorem isPre_of : ∀ {l m : List Nat}, l <+: m → isPre l m = true
  | [], m, _ => rfl
  | a :: l, [], h => by obtain ⟨t, ht⟩ := h; cases ht
  | a :: l, b :: m, h => by
    obtain ⟨t, ht⟩ := h
    rw [List.cons_append] at ht
    injection ht with h1 h2
    subst h1
    unfold isPre
    rw [Nat.beq_refl]
    exact isPre_of ⟨t, h2⟩
def hitAt (r : Nat) (p : Path) (j : Nat) : Nat → Path → Bool := fun r' p' => match Nat.beq r r' with
  | true => isPre (p.map Prod.snd ++ [j]) (p'.map Prod.snd)
  | false => false
theorem hitAt_of {r : Nat} {p q : Path} {i j : Nat} : hitAt r p j r (p ++ (i, j) :: q) = true := by
  unfold hitAt
  rw [Nat.beq_refl]
  exact isPre_of ⟨q.map Prod.snd, by simp⟩
/-- What names a place beneath the cell is no more, if there is one. -/
def St.clear (s : St) (u : V) (r : Nat) (p : Path) (j : Nat) : St :=
  match u with
  | .own _ _ _ => s.killT (hitAt r p j)
  | .sl _ _ => s.killT (hitAt r p j)
  | _ => s
def clearV (u : V) (r : Nat) (p : Path) (j : Nat) : V → V :=
  match u with
  | .own _ _ _ => kill (hitAt r p j)
  | .sl _ _ => kill (hitAt r p j)
  | _ => fun v => v
theorem St.clear_get (s : St) (u : V) (r : Nat) (p : Path) (j t : Nat) : (s.clear u r p j).get t = clearV u r p j (s.get t) := by
  cases u <;> first | rfl | exact St.get_killT s _ t
def St.putOb (s : St) (r : Nat) (p : Path) (f : List (List V) → List (List V)) : St :=
  match s.obj r with
  | some o => { s with ob := (r, some { o with es := putAt f o.es p }) :: s.ob }
  | none => s
theorem St.clear_ob (s : St) (u : V) (r : Nat) (p : Path) (j : Nat) : (s.clear u r p j).ob = s.ob ∧ (s.clear u r p j).nx = s.nx ∧ (s.clear u r p j).fz = s.fz := by
  unfold St.clear; split <;> exact ⟨rfl, rfl, rfl⟩
theorem St.putOb_tm (s : St) (r : Nat) (p : Path) (f : List (List V) → List (List V)) : (s.putOb r p f).tm = s.tm ∧ (s.putOb r p f).nx = s.nx ∧ (s.putOb r p f).fz = s.fz := by
  unfold St.putOb; split <;> exact ⟨rfl, rfl, rfl⟩
theorem St.at_putOb {s : St} {r : Nat} {o : Ob} (ho : s.obj r = some o) (p : Path) (f : List (List V) → List (List V)) (r' : Nat) (q : Path) : (s.putOb r p f).at r' q = if r = r' then sub o.deep o.sz (putAt f o.es p) q else s.at r' q := by
  unfold St.putOb
  rw [ho]
  unfold St.at St.obj
  dsimp only
  rw [look_cons]
  by_cases e : r = r'
  · rw [if_pos e, if_pos e]
  · rw [if_neg e, if_neg e]

theorem St.shape_putOb (s : St) (r : Nat) (p : Path) {f : List (List V) → List (List V)} (hf : ∀ es, (f es).length = es.length) (k : Nat) : (s.putOb r p f).shape k = s.shape k := by
  unfold St.putOb
  split
  · rename_i o ho
    unfold St.shape St.obj
    dsimp only
    rw [look_cons]
    by_cases e : r = k
    · subst e
      rw [if_pos rfl]
      unfold St.obj at ho
      rw [ho]
      simp [putAt_length f hf]
    · rw [if_neg e]
  · rfl
theorem St.shape_clear (s : St) (u : V) (r : Nat) (p : Path) (j k : Nat) : (s.clear u r p j).shape k = s.shape k := by
  unfold St.shape St.obj; rw [(s.clear_ob u r p j).1]
theorem St.clear_ng (s : St) (u : V) (r : Nat) (p : Path) (j : Nat) : (s.clear u r p j).ng = s.ng := by
  cases u <;> rfl
theorem St.putOb_ng (s : St) (r : Nat) (p : Path) (f : List (List V) → List (List V)) : (s.putOb r p f).ng = s.ng := by
  unfold St.putOb; split <;> rfl
theorem sub_setAt_ne {d : Bool} {n : Nat} {es : List (List V)} {i j : Nat} {v : V} {i' j' : Nat} (h : ¬ (i = i' ∧ j = j')) (q : Path) : sub d n (setAt i j v es) ((i', j') :: q) = sub d n es ((i', j') :: q) := by
  unfold setAt
  cases he : es[i]? with
  | none => rfl
  | some e =>
    dsimp only
    have hi := (List.getElem?_eq_some_iff.1 he).1
    simp only [sub]
    by_cases hii : i = i'
    · subst hii
      rw [List.getElem?_set_self hi, he]
      dsimp only
      rw [List.getElem?_set_ne (fun e => h ⟨rfl, e⟩)]
    · rw [List.getElem?_set_ne hii]
theorem setAt_cell {es : List (List V)} {i j : Nat} {e : List V} {u v : V} (he : es[i]? = some e) (hu : e[j]? = some u) : ∃ e', (setAt i j v es)[i]? = some e' ∧ e'[j]? = some v := by
  unfold setAt
  rw [he]
  exact ⟨_, List.getElem?_set_self (List.getElem?_eq_some_iff.1 he).1, List.getElem?_set_self (List.getElem?_eq_some_iff.1 hu).1⟩
/-- The cells behind a change of one. -/
theorem setAt_get {es : List (List V)} {i j : Nat} {v : V} {i' : Nat} {e' : List V} (h : (setAt i j v es)[i']? = some e') : ∃ e, es[i']? = some e ∧ e.length = e'.length ∧ ∀ (j' : Nat) (x : V), e'[j']? = some x → (i' = i ∧ j' = j ∧ x = v) ∨ ((i' ≠ i ∨ j' ≠ j) ∧ e[j']? = some x) := by
  unfold setAt at h
  cases he : es[i]? with
  | none =>
    rw [he] at h
    refine ⟨e', h, rfl, fun j' x hx => .inr ⟨.inl (fun e => ?_), hx⟩⟩
    subst e
    rw [he] at h; cases h
  | some e =>
    rw [he] at h
    dsimp only at h
    have hi := (List.getElem?_eq_some_iff.1 he).1
    by_cases hii : i = i'
    · subst hii
      rw [List.getElem?_set_self hi] at h
      obtain rfl := Option.some.inj h
      refine ⟨e, he, by rw [List.length_set], fun j' x hx => ?_⟩
      by_cases hjj : j = j'
      · subst hjj
        have := (List.getElem?_eq_some_iff.1 hx).1
        rw [List.length_set] at this
        rw [List.getElem?_set_self this] at hx
        exact .inl ⟨rfl, rfl, (Option.some.inj hx).symm⟩
      · rw [List.getElem?_set_ne hjj] at hx
        exact .inr ⟨.inr (fun e => hjj e.symm), hx⟩
    · rw [List.getElem?_set_ne hii] at h
      exact ⟨e', h, rfl, fun j' x hx => .inr ⟨.inl (fun e => hii e.symm), hx⟩⟩

theorem cell_arith {i j i' j' n : Nat} (hj : j < n) (hj' : j' < n) (h : i * n + j = i' * n + j') : i = i' ∧ j = j' := by
  have h1 : (i * n + j) / n = i := by rw [Nat.mul_comm, Nat.mul_add_div (by omega), Nat.div_eq_of_lt hj]; rfl
  have h2 : (i' * n + j') / n = i' := by rw [Nat.mul_comm, Nat.mul_add_div (by omega), Nat.div_eq_of_lt hj']; rfl
  have e : i = i' := by rw [← h1, ← h2, h]
  subst e
  exact ⟨rfl, by omega⟩

theorem setCell_cell (w : World) (b o : Nat) (c : Value) (hs : (w.cell? ⟨b, o, none⟩).isSome = true) (b' o' : Nat) : (w.setCell ⟨b, o, none⟩ c).cell? ⟨b', o', none⟩ = if b = b' ∧ o = o' then some c else w.cell? ⟨b', o', none⟩ := by
  by_cases h : b = b' ∧ o = o'
  · obtain ⟨rfl, rfl⟩ := h
    rw [if_pos ⟨rfl, rfl⟩]
    have := World.cell?_setCells_in b [c] o w (fun j hj => by
      have : j = 0 := by simp at hj; omega
      subst this; exact hs) 0 (by simp)
    simpa [World.setCells] using this
  · rw [if_neg h]
    have := World.cell?_setCells_out b [c] o w ⟨b', o', none⟩ (fun h1 _ => by
      have h1 : b' = b := h1
      have : o' ≠ o := fun e => h ⟨h1.symm, e.symm⟩
      show o' < o ∨ o + 1 ≤ o'
      omega)
    simpa [World.setCells] using this
theorem setCell_frozen (w : World) (b o : Nat) (c : Value) (b' o' : Nat) : (w.setCell ⟨b, o, none⟩ c).frozen? ⟨b', o', none⟩ = w.frozen? ⟨b', o', none⟩ := by
  exact World.frozen?_setCells b [c] o w ⟨b', o', none⟩
theorem setCell_heap (w : World) (b o : Nat) (c : Value) (k : Nat) (h : k ≠ b) : (w.setCell ⟨b, o, none⟩ c).heap[k]? = w.heap[k]? := Below.heap_setCell w _ c k h

section
variable {β : Base} {s : St} {a : Act} {w : World} {g : Gh} {pm : Nat → Nat → Option (Nat × Path)} {C : Ctx}

theorem R.place (h : R β s a w g pm) {r : Nat} {p : Path} {es : List (List V)} {d : Bool} {n : Nat} (hat : s.at r p = some (es, d, n)) {i j : Nat} {e : List V} {u : V} (he : es[i]? = some e) (hu : e[j]? = some u) :
    g.nl r p = false ∧ j < g.sz r p ∧ i < es.length ∧ Mine w pm r p (g.blk r p) (g.off r p + i * g.sz r p + j) := by
  have hb := h.blk r p es d n hat
  have hi := (List.getElem?_eq_some_iff.1 he).1
  have hj := (List.getElem?_eq_some_iff.1 hu).1
  rw [hb.row i e he] at hj
  have hnl : g.nl r p = false := by
    cases hq : g.nl r p with
    | false => rfl
    | true => rw [hb.nil hq] at hi; cases hi
  refine ⟨hnl, hj, hi, ?_⟩
  have := hb.mine hnl (i * g.sz r p + j) (by
    have hlen := hb.len
    have h1 : (i + 1) * g.sz r p ≤ g.cap r p * g.sz r p := Nat.mul_le_mul_right _ (by omega)
    rw [Nat.add_mul, Nat.one_mul] at h1
    omega)
  rw [← Nat.add_assoc] at this
  exact this

theorem R.set1 (h : R β s a w g pm) {r : Nat} {p : Path} {es : List (List V)} {d : Bool} {n : Nat} (hat : s.at r p = some (es, d, n)) {i j : Nat} {e : List V} {u v : V} (he : es[i]? = some e) (hu : e[j]? = some u) {c : Value}
    (hp : Plain d v) (hc : CR w (okc β pm) g r p d i j v c) :
    R β ((s.clear u r p j).putOb r p (setAt i j v)) a (w.setCell ⟨g.blk r p, g.off r p + i * g.sz r p + j, none⟩ c) g pm ∧
    ∀ v' x, VR w (okc β pm) g s.len v' x → VR (w.setCell ⟨g.blk r p, g.off r p + i * g.sz r p + j, none⟩ c) (okc β pm) g ((s.clear u r p j).putOb r p (setAt i j v)).len (clearV u r p j v') x := by
  obtain ⟨hnl, hj, hi, hm⟩ := h.place hat he hu
  obtain ⟨o, ho⟩ : ∃ o, s.obj r = some o := by
    unfold St.at at hat
    cases ho : s.obj r with
    | none => rw [ho] at hat; cases hat
    | some o => exact ⟨o, rfl⟩
  have hsub : sub o.deep o.sz o.es p = some (es, d, n) := by unfold St.at at hat; rw [ho] at hat; exact hat
  have hobc : (s.clear u r p j).obj r = some o := by unfold St.obj; rw [(s.clear_ob u r p j).1]; exact ho
  have hatc : ∀ r' q, (s.clear u r p j).at r' q = s.at r' q := fun r' q => by unfold St.at St.obj; rw [(s.clear_ob u r p j).1]
  have hat' : ∀ r' q, ((s.clear u r p j).putOb r p (setAt i j v)).at r' q = if r = r' then sub o.deep o.sz (putAt (setAt i j v) o.es p) q else s.at r' q := fun r' q => by rw [St.at_putOb hobc, hatc]
  have hlf := setAt_length i j v
  have hcell : ∀ b' o', (w.setCell ⟨g.blk r p, g.off r p + i * g.sz r p + j, none⟩ c).cell? ⟨b', o', none⟩ = if g.blk r p = b' ∧ g.off r p + i * g.sz r p + j = o' then some c else w.cell? ⟨b', o', none⟩ := setCell_cell w _ _ c hm.2.2
  have hfz : ∀ b' o', (w.setCell ⟨g.blk r p, g.off r p + i * g.sz r p + j, none⟩ c).frozen? ⟨b', o', none⟩ = w.frozen? ⟨b', o', none⟩ := setCell_frozen w _ _ c
  have hk : ∀ b' o' c', okc β pm b' o' → w.cell? ⟨b', o', none⟩ = some c' → okc β pm b' o' ∧ (w.setCell ⟨g.blk r p, g.off r p + i * g.sz r p + j, none⟩ c).cell? ⟨b', o', none⟩ = some c' := fun b' o' c' h1 h2 => by
    refine ⟨h1, ?_⟩
    rw [hcell, if_neg (fun hh => ?_)]
    · exact h2
    · obtain ⟨rfl, rfl⟩ := hh
      have h1 := h1.1
      rw [hm.1] at h1; cases h1
  -- the places that stay
  have hlen : ∀ r' q m, s.len r' q = some m → (r = r' → ∀ q2, q ≠ p ++ (i, j) :: q2) → ((s.clear u r p j).putOb r p (setAt i j v)).len r' q = some m := fun r' q m hm' hq => by
    unfold St.len at hm' ⊢
    rw [hat']
    by_cases hr : r = r'
    · subst hr
      rw [if_pos rfl]
      unfold St.at at hm'
      rw [ho] at hm'
      dsimp only at hm'
      by_cases hpre : p <+: q
      · obtain ⟨q1, rfl⟩ := hpre
        rw [putAt_at _ hsub]
        rw [sub_append, hsub] at hm'
        cases q1 with
        | nil => simpa [sub, hlf] using hm'
        | cons x q2 =>
          obtain ⟨i', j'⟩ := x
          by_cases hij : i = i' ∧ j = j'
          · obtain ⟨rfl, rfl⟩ := hij
            exact absurd rfl (hq rfl q2)
          · rw [sub_setAt_ne hij]; exact hm'
      · cases hs : sub o.deep o.sz o.es q with
        | none => rw [hs] at hm'; cases hm'
        | some x =>
          obtain ⟨e1, d1, n1⟩ := x
          rw [hs] at hm'
          obtain ⟨e0, h1, h2⟩ := putAt_keeps (setAt i j v) hlf hsub hpre hs
          rw [h1]
          simpa [h2.len] using hm'
    · rw [if_neg hr]; exact hm'
  have hsame : ∀ r p, SameGh g g r r p p := fun r p => ⟨rfl, rfl, rfl, rfl, rfl⟩
  have hnone : (∀ d' n' es', u ≠ .own d' n' es') → (∀ n' es', u ≠ .sl n' es') → ∀ q2 m, s.len r (p ++ (i, j) :: q2) ≠ some m := fun h1 h2 q2 m hm' => by
    unfold St.len St.at at hm'
    rw [ho] at hm'
    dsimp only at hm'
    rw [sub_append, hsub] at hm'
    simp only [Option.bind_some, sub, he, hu] at hm'
    cases u with
    | own d' n' es' => exact h1 _ _ _ rfl
    | sl n' es' => exact h2 _ _ rfl
    | _ => cases hm'
  have hV : ∀ v' x, VR w (okc β pm) g s.len v' x → VR (w.setCell ⟨g.blk r p, g.off r p + i * g.sz r p + j, none⟩ c) (okc β pm) g ((s.clear u r p j).putOb r p (setAt i j v)).len (clearV u r p j v') x := fun v' x hv' => by
    have hkilled : VR (w.setCell ⟨g.blk r p, g.off r p + i * g.sz r p + j, none⟩ c) (okc β pm) g ((s.clear u r p j).putOb r p (setAt i j v)).len (kill (hitAt r p j) v') x := by
      refine hv'.kill hk (fun r' q m hm' hh => ⟨hlen r' q m hm' (fun hr q2 hq => ?_), hsame _ _⟩)
      subst hr; subst hq
      rw [hitAt_of] at hh; cases hh
    have hplain : (∀ d' n' es', u ≠ .own d' n' es') → (∀ n' es', u ≠ .sl n' es') → VR (w.setCell ⟨g.blk r p, g.off r p + i * g.sz r p + j, none⟩ c) (okc β pm) g ((s.clear u r p j).putOb r p (setAt i j v)).len v' x := fun h1 h2 => by
      refine hv'.mono hk (fun r' q m hm' => ⟨hlen r' q m hm' (fun hr q2 hq => ?_), hsame _ _⟩)
      subst hr; subst hq
      exact hnone h1 h2 q2 m hm'
    cases u with
    | own d' n' es' => exact hkilled
    | sl n' es' => exact hkilled
    | _ => exact hplain (fun _ _ _ hh => by cases hh) (fun _ _ hh => by cases hh)
  have htm : ∀ t, VR (w.setCell ⟨g.blk r p, g.off r p + i * g.sz r p + j, none⟩ c) (okc β pm) g ((s.clear u r p j).putOb r p (setAt i j v)).len (((s.clear u r p j).putOb r p (setAt i j v)).get t) (a.tmps.getD t undef) := fun t => by
    have hget : ((s.clear u r p j).putOb r p (setAt i j v)).get t = (s.clear u r p j).get t := by unfold St.get; rw [(St.putOb_tm _ _ _ _).1]
    rw [hget, St.clear_get]
    exact hV _ _ (h.tm t)
  have hmine : ∀ r' q k, Mine w pm r' q (g.blk r' q) k → Mine (w.setCell ⟨g.blk r p, g.off r p + i * g.sz r p + j, none⟩ c) pm r' q (g.blk r' q) k := fun r' q k hh => by
    refine ⟨hh.1, by rw [hfz]; exact hh.2.1, ?_⟩
    rw [hcell]
    split
    · rfl
    · exact hh.2.2
  -- a block whose cells are not written
  have hfar : ∀ r' q es' d' n', s.at r' q = some (es', d', n') → ¬ (r' = r ∧ q = p) → BR (w.setCell ⟨g.blk r p, g.off r p + i * g.sz r p + j, none⟩ c) (okc β pm) g pm r' q es' d' n' := fun r' q es' d' n' hq hne => by
    have hb := h.blk r' q es' d' n' hq
    refine ⟨hb.siz, hb.nil, hb.len, hb.row, fun hn k hkk => hmine _ _ _ (hb.mine hn k hkk), fun i' j' e' v' he' hv' => ?_⟩
    obtain ⟨c', c1, c2⟩ := hb.cell i' j' e' v' he' hv'
    refine ⟨c', ?_, CR.mono hk (fun _ => hsame _ _) c2⟩
    rw [hcell, if_neg (fun hh => hne ?_)]
    · exact c1
    · obtain ⟨_, _, _, hm'⟩ := h.place hq he' hv'
      have h1 := hm'.1
      rw [← hh.1, ← hh.2, hm.1] at h1
      injection h1 with h1
      injection h1 with h1 h2
      exact ⟨h1.symm, h2.symm⟩
  refine ⟨?_, hV⟩
  exact {
    defers := h.defers
    fsz := by rw [(St.putOb_tm _ _ _ _).2.2, (s.clear_ob u r p j).2.2]; exact h.fsz
    tm := htm
    blk := fun r' q es' d' n' hq => by
      rw [hat'] at hq
      by_cases hr : r = r'
      · subst hr
        rw [if_pos rfl] at hq
        by_cases hpre : p <+: q
        · obtain ⟨q1, rfl⟩ := hpre
          rw [putAt_at _ hsub] at hq
          cases q1 with
          | nil =>
            rw [List.append_nil] at *
            obtain ⟨rfl, rfl, rfl⟩ : setAt i j v es = es' ∧ d = d' ∧ n = n' := by simpa [sub] using hq
            have hb := h.blk r p es d n hat
            refine ⟨hb.siz, fun hn => ?_, by rw [hlf]; exact hb.len, fun i' e' he' => ?_, fun hn k hkk => hmine _ _ _ (hb.mine hn k hkk), fun i' j' e' v' he' hv' => ?_⟩
            · rw [hnl] at hn; cases hn
            · obtain ⟨e1, h1, h2, _⟩ := setAt_get he'
              rw [← h2]; exact hb.row i' e1 h1
            · obtain ⟨e1, h1, h2, h3⟩ := setAt_get he'
              rcases h3 j' v' hv' with ⟨rfl, rfl, rfl⟩ | ⟨hne, hx⟩
              · exact ⟨c, by rw [hcell, if_pos ⟨rfl, rfl⟩], CR.mono hk (fun _ => hsame _ _) hc⟩
              · obtain ⟨c', c1, c2⟩ := hb.cell i' j' e1 v' h1 hx
                refine ⟨c', ?_, CR.mono hk (fun _ => hsame _ _) c2⟩
                rw [hcell, if_neg (fun hh => ?_)]
                · exact c1
                · have hj' := (List.getElem?_eq_some_iff.1 hx).1
                  rw [hb.row i' e1 h1] at hj'
                  have := cell_arith hj hj' (by omega : i * g.sz r p + j = i' * g.sz r p + j')
                  omega
          | cons x q2 =>
            obtain ⟨i', j'⟩ := x
            by_cases hij : i = i' ∧ j = j'
            · obtain ⟨rfl, rfl⟩ := hij
              obtain ⟨e1, h1, h2⟩ := setAt_cell (v := v) he hu
              simp only [sub, h1, h2] at hq
              cases v with
              | own d' n' es' => exact hp.elim
              | sl n' es' =>
                have hp : d = false := hp
                subst hp
                cases hq
              | _ => cases hq
            · rw [sub_setAt_ne hij] at hq
              have hq' : s.at r (p ++ (i', j') :: q2) = some (es', d', n') := by
                unfold St.at; rw [ho]; dsimp only; rw [sub_append, hsub]; exact hq
              exact hfar r _ es' d' n' hq' (fun hh => by
                have := congrArg List.length hh.2
                simp at this)
        · obtain ⟨e0, h1, h2⟩ := putAt_other (setAt i j v) hlf hsub hpre hq
          have hq' : s.at r q = some (e0, d', n') := by unfold St.at; rw [ho]; exact h1
          exact (hfar r q e0 d' n' hq' (fun hh => hpre (by rw [hh.2]; exact List.prefix_refl _))).sim h2
      · rw [if_neg hr] at hq
        exact hfar r' q es' d' n' hq (fun hh => hr hh.1.symm)
    fresh := fun r' hr' => by
      rw [(St.putOb_tm _ _ _ _).2.1, (s.clear_ob u r p j).2.1] at hr'
      unfold St.putOb
      rw [hobc]
      show look none ((r, some _) :: (s.clear u r p j).ob) r' = none
      rw [look_cons, if_neg (fun e => by
        subst e
        rw [h.fresh r hr'] at ho; cases ho), (s.clear_ob u r p j).1]
      exact h.fresh r' hr'
    own := h.own
    keep := {
      os := h.keep.os, tape := h.keep.tape, output := h.keep.output
      size := by show β.w0.heap.size ≤ (w.heap.modify _ _).size; rw [Array.size_modify]; exact h.keep.size
      block := fun b hb h0 => by
        rw [setCell_heap]
        · exact h.keep.block b hb h0
        · intro e
          rcases h.own (g.blk r p) _ (by rw [hm.1]; simp) with h1 | h1
          · rw [← e] at h1; exact h1 (h0 _)
          · omega
      cell := fun b o hb h0 => by
        rw [hcell, hfz, if_neg]
        · exact h.keep.cell b o hb h0
        · rintro ⟨rfl, rfl⟩
          rcases h.own (g.blk r p) _ (by rw [hm.1]; simp) with h1 | h1
          · exact h1 h0
          · omega }
    low := fun b o hb => by show b < (w.heap.modify _ _).size; rw [Array.size_modify]; exact h.low b o hb
    ngnx := by rw [St.putOb_ng, St.clear_ng, (St.putOb_tm _ _ _ _).2.1, (s.clear_ob u r p j).2.1]; exact h.ngnx
    top := fun k hk => by
      rw [St.putOb_ng, St.clear_ng] at hk
      rw [St.shape_putOb _ _ _ hlf, St.shape_clear]; exact h.top k hk }
end
end Ev
namespace Ev
open Go Go.RowKit
set_option linter.unusedVariables false
set_option linter.unusedSimpArgs false

def strip : Path → Path → Option Path
  | [], q => some q
  | x :: l, y :: m => if x = y then strip l m else none
  | _ :: _, [] => none
theorem strip_append : ∀ (l q : Path), strip l (l ++ q) = some q
  | [], q => rfl
  | x :: l, q => by rw [List.cons_append, strip, if_pos rfl]; exact strip_append l q
theorem strip_some : ∀ {l m q : Path}, strip l m = some q → m = l ++ q
  | [], m, q, h => by obtain rfl := Option.some.inj (show some m = some q from h); rfl
  | x :: l, [], q, h => by cases h
  | x :: l, y :: m, q, h => by
    unfold strip at h
    split at h
    · rename_i e; subst e; rw [List.cons_append, strip_some h]
    · cases h

def hitRoot (q : Nat) : Nat → Path → Bool := fun r _ => Nat.beq q r
def St.dropOb (s : St) (q : Nat) : St := { s with ob := (q, none) :: s.ob }
/-- Where a place stood before. -/
def oldAt (q r : Nat) (P : Path) (r' : Nat) (p' : Path) : Nat × Path :=
  if r' = r then match strip P p' with
    | some q2 => (q, q2)
    | none => (r', p')
  else (r', p')
def movGh (g : Gh) (q r : Nat) (P : Path) : Gh :=
  ⟨fun r' p' => g.blk (oldAt q r P r' p').1 (oldAt q r P r' p').2, fun r' p' => g.off (oldAt q r P r' p').1 (oldAt q r P r' p').2, fun r' p' => g.sz (oldAt q r P r' p').1 (oldAt q r P r' p').2, fun r' p' => g.cap (oldAt q r P r' p').1 (oldAt q r P r' p').2, fun r' p' => g.nl (oldAt q r P r' p').1 (oldAt q r P r' p').2⟩
def movPm (pm : Nat → Nat → Option (Nat × Path)) (q r : Nat) (P : Path) : Nat → Nat → Option (Nat × Path) := fun b o =>
  match pm b o with
  | some (q0, p0) => if q0 = q then some (r, P ++ p0) else some (q0, p0)
  | none => none
theorem movGh_under (g : Gh) (q r : Nat) (P q2 : Path) : SameGh g (movGh g q r P) q r q2 (P ++ q2) := by
  have : oldAt q r P r (P ++ q2) = (q, q2) := by unfold oldAt; rw [if_pos rfl, strip_append]
  unfold SameGh movGh; simp only [this]; exact ⟨trivial, trivial, trivial, trivial, trivial⟩
theorem movGh_else (g : Gh) (q r : Nat) (P : Path) {r' : Nat} {p' : Path} (h : r' = r → ∀ q2, p' ≠ P ++ q2) : SameGh g (movGh g q r P) r' r' p' p' := by
  have : oldAt q r P r' p' = (r', p') := by
    unfold oldAt
    split
    · rename_i e
      split
      · rename_i q2 hq; exact absurd (strip_some hq) (h e q2)
      · rfl
    · rfl
  unfold SameGh movGh; simp only [this]; exact ⟨trivial, trivial, trivial, trivial, trivial⟩

/-- A block that is known, told by another name. -/
theorem BR.rename {w : World} {ok ok' : Nat → Nat → Prop} {g g' : Gh} {pm pm' : Nat → Nat → Option (Nat × Path)} {r r' : Nat} {p p' : Path} {es : List (List V)} {d : Bool} {n : Nat} (h : BR w ok g pm r p es d n)
    (hk : ∀ b o c, ok b o → w.cell? ⟨b, o, none⟩ = some c → ok' b o) (hg : SameGh g g' r r' p p') (hpm : ∀ b o, pm b o = some (r, p) → pm' b o = some (r', p'))
    (hsub : ∀ (i j : Nat) (e : List V) (v : V), es[i]? = some e → e[j]? = some v → (∃ d' n es, v = .own d' n es) ∨ (∃ n es, v = .sl n es ∧ d = true) → SameGh g g' r r' (p ++ [(i, j)]) (p' ++ [(i, j)])) : BR w ok' g' pm' r' p' es d n := by
  obtain ⟨e1, e2, e3, e4, e5⟩ := hg
  refine ⟨by rw [e3]; exact h.siz, by rw [e5]; exact h.nil, by rw [e4]; exact h.len, by rw [e3]; exact h.row, ?_, fun i j e v he hv => ?_⟩
  · rw [e1, e2, e3, e4, e5]
    intro hn k hk'
    obtain ⟨m1, m2, m3⟩ := h.mine hn k hk'
    exact ⟨hpm _ _ m1, m2, m3⟩
  · rw [e1, e2, e3]
    obtain ⟨c, c1, c2⟩ := h.cell i j e v he hv
    exact ⟨c, c1, CR.mono (fun b o c h1 h2 => ⟨hk b o c h1 h2, h2⟩) (hsub i j e v he hv) c2⟩

section
variable {β : Base} {s : St} {a : Act} {w : World} {g : Gh} {pm : Nat → Nat → Option (Nat × Path)} {C : Ctx}

theorem R.adopt (h : R β s a w g pm) {r : Nat} {p : Path} {es : List (List V)} {d : Bool} {n : Nat} (hat : s.at r p = some (es, d, n)) {i j : Nat} {e : List V} (he : es[i]? = some e) (hu : e[j]? = some .dead)
    {q : Nat} {oq : Ob} (hq : s.obj q = some oq) (hqr : q ≠ r) (hng : s.ng ≤ q) {c : Value} (hcc : w.cell? ⟨g.blk r p, g.off r p + i * g.sz r p + j, none⟩ = some c) (hc : RefHdr g q [] 0 oq.es.length c) {X : V} (hX : X = .own oq.deep oq.sz oq.es ∨ (d = true ∧ oq.deep = true ∧ X = .sl oq.sz oq.es)) :
    R β (((s.movT q r (p ++ [(i, j)])).dropOb q).putOb r p (setAt i j X)) a w (movGh g q r (p ++ [(i, j)])) (movPm pm q r (p ++ [(i, j)])) ∧
    ∀ v x, VR w (okc β pm) g s.len v x → VR w (okc β (movPm pm q r (p ++ [(i, j)]))) (movGh g q r (p ++ [(i, j)])) (((s.movT q r (p ++ [(i, j)])).dropOb q).putOb r p (setAt i j X)).len (mov q r (p ++ [(i, j)]) v) x := by
  obtain ⟨hnl, hj, hi, hm⟩ := h.place hat he hu
  obtain ⟨o, ho⟩ : ∃ o, s.obj r = some o := by
    unfold St.at at hat
    cases ho : s.obj r with
    | none => rw [ho] at hat; cases hat
    | some o => exact ⟨o, rfl⟩
  have hsub : sub o.deep o.sz o.es p = some (es, d, n) := by unfold St.at at hat; rw [ho] at hat; exact hat
  have hobc : ((s.movT q r (p ++ [(i, j)])).dropOb q).obj r = some o := by
    show look none ((q, none) :: s.ob) r = some o
    rw [look_cons, if_neg hqr]; exact ho
  have hatc : ∀ r' q', ((s.movT q r (p ++ [(i, j)])).dropOb q).at r' q' = if q = r' then none else s.at r' q' := fun r' q' => by
    unfold St.at St.obj St.dropOb St.movT
    dsimp only
    rw [look_cons]
    by_cases e : q = r'
    · rw [if_pos e, if_pos e]
    · rw [if_neg e, if_neg e]
  have hat' : ∀ r' q', (((s.movT q r (p ++ [(i, j)])).dropOb q).putOb r p (setAt i j X)).at r' q' = if r = r' then sub o.deep o.sz (putAt (setAt i j X) o.es p) q' else if q = r' then none else s.at r' q' := fun r' q' => by rw [St.at_putOb hobc, hatc]
  have hlf := setAt_length i j X
  have hqat : ∀ q2, s.at q q2 = sub oq.deep oq.sz oq.es q2 := fun q2 => by unfold St.at; rw [hq]
  have hXsub : ∀ q2, sub d n (setAt i j X es) ((i, j) :: q2) = s.at q q2 := fun q2 => by
    obtain ⟨e1, h1, h2⟩ := setAt_cell (v := X) he hu
    rw [hqat]
    simp only [sub, h1, h2]
    rcases hX with rfl | ⟨rfl, h3, rfl⟩
    · rfl
    · rw [h3]
  have hXlen : ∃ es', (X = .own oq.deep oq.sz es' ∨ X = .sl oq.sz es') ∧ es' = oq.es := by
    rcases hX with rfl | ⟨_, _, rfl⟩
    · exact ⟨_, .inl rfl, rfl⟩
    · exact ⟨_, .inr rfl, rfl⟩
  have hnone : ∀ q2, s.at r (p ++ (i, j) :: q2) = none := fun q2 => by
    unfold St.at
    rw [ho]
    dsimp only
    rw [sub_append, hsub]
    simp only [Option.bind_some, sub, he, hu]
  have happ : ∀ q2 : Path, p ++ (i, j) :: q2 = (p ++ [(i, j)]) ++ q2 := fun q2 => by simp
  have hpmn : ∀ b o', movPm pm q r (p ++ [(i, j)]) b o' = none ↔ pm b o' = none := fun b o' => by
    unfold movPm
    cases pm b o' with
    | none => exact Iff.rfl
    | some x =>
      obtain ⟨q0, p0⟩ := x
      dsimp only
      split <;> simp
  have hok : okc β (movPm pm q r (p ++ [(i, j)])) = okc β pm := by
    funext b o'
    unfold okc
    rw [propext (hpmn b o')]
  have hpmo : ∀ b o' r' p', r' ≠ q → pm b o' = some (r', p') → movPm pm q r (p ++ [(i, j)]) b o' = some (r', p') := fun b o' r' p' hr hh => by
    unfold movPm; rw [hh]; dsimp only; rw [if_neg hr]
  have hpmq : ∀ b o' p', pm b o' = some (q, p') → movPm pm q r (p ++ [(i, j)]) b o' = some (r, (p ++ [(i, j)]) ++ p') := fun b o' p' hh => by
    unfold movPm; rw [hh]; dsimp only; rw [if_pos rfl]
  have hk : ∀ b o' c', okc β pm b o' → w.cell? ⟨b, o', none⟩ = some c' → okc β (movPm pm q r (p ++ [(i, j)])) b o' := fun b o' c' h1 _ => by rw [hok]; exact h1
  -- places that stay
  have hstay : ∀ r' q', s.at r' q' ≠ none → r' = r → ∀ q2, q' ≠ (p ++ [(i, j)]) ++ q2 := fun r' q' hh hr q2 hqq => by
    subst hr
    rw [hqq, ← happ] at hh
    exact hh (hnone q2)
  have hlen : ∀ r' q' m, s.len r' q' = some m → r' ≠ q → (((s.movT q r (p ++ [(i, j)])).dropOb q).putOb r p (setAt i j X)).len r' q' = some m ∧ SameGh g (movGh g q r (p ++ [(i, j)])) r' r' q' q' := fun r' q' m hm' hrq => by
    have hne : s.at r' q' ≠ none := fun e => by unfold St.len at hm'; rw [e] at hm'; cases hm'
    refine ⟨?_, movGh_else g q r _ (hstay r' q' hne)⟩
    unfold St.len at hm' ⊢
    rw [hat']
    by_cases hr : r = r'
    · subst hr
      rw [if_pos rfl]
      by_cases hpre : p <+: q'
      · obtain ⟨q1, rfl⟩ := hpre
        rw [putAt_at _ hsub]
        unfold St.at at hm'
        rw [ho] at hm'
        dsimp only at hm'
        rw [sub_append, hsub] at hm'
        cases q1 with
        | nil => simpa [sub, hlf] using hm'
        | cons x q2 =>
          obtain ⟨i', j'⟩ := x
          by_cases hij : i = i' ∧ j = j'
          · obtain ⟨rfl, rfl⟩ := hij
            exact absurd (hnone q2) hne
          · rw [sub_setAt_ne hij]; exact hm'
      · unfold St.at at hm'
        rw [ho] at hm'
        dsimp only at hm'
        cases hs : sub o.deep o.sz o.es q' with
        | none => rw [hs] at hm'; cases hm'
        | some x =>
          obtain ⟨e1, d1, n1⟩ := x
          rw [hs] at hm'
          obtain ⟨e0, h1, h2⟩ := putAt_keeps (setAt i j X) hlf hsub hpre hs
          rw [h1]
          simpa [h2.len] using hm'
    · rw [if_neg hr, if_neg (fun e => hrq e.symm)]; exact hm'
  have hV : ∀ v x, VR w (okc β pm) g s.len v x → VR w (okc β (movPm pm q r (p ++ [(i, j)]))) (movGh g q r (p ++ [(i, j)])) (((s.movT q r (p ++ [(i, j)])).dropOb q).putOb r p (setAt i j X)).len (mov q r (p ++ [(i, j)]) v) x := fun v x hv => by
    refine hv.mov (fun b o' c' h1 h2 => ⟨hk b o' c' h1 h2, h2⟩) (fun r' q' m hm' hh => hlen r' q' m hm' hh) (fun q' m hm' => ⟨?_, movGh_under g q r (p ++ [(i, j)]) q'⟩)
    unfold St.len at hm' ⊢
    rw [hat', if_pos rfl, List.append_assoc, putAt_at _ hsub]
    show (sub d n (setAt i j X es) ((i, j) :: q')).map _ = _
    rw [hXsub]; exact hm'
  -- a block that stays
  have hfar : ∀ r' q' es' d' n', s.at r' q' = some (es', d', n') → r' ≠ q → ¬ (r' = r ∧ q' = p) → BR w (okc β (movPm pm q r (p ++ [(i, j)]))) (movGh g q r (p ++ [(i, j)])) (movPm pm q r (p ++ [(i, j)])) r' q' es' d' n' := fun r' q' es' d' n' hh hrq hne => by
    refine (h.blk r' q' es' d' n' hh).rename hk (movGh_else g q r _ (hstay r' q' (by rw [hh]; simp))) (fun b o' => hpmo b o' r' q' hrq) (fun i' j' e' v' he' hv' hx => movGh_else g q r _ (fun hr q2 hqq => ?_))
    -- a child under P would be P itself
    have hl := congrArg List.length hqq
    rcases List.eq_nil_or_concat q2 with rfl | ⟨q3, x, rfl⟩
    · rw [List.append_nil] at hqq
      have := List.append_inj' hqq rfl
      exact hne ⟨hr, this.1⟩
    · rw [List.concat_eq_append, ← List.append_assoc] at hqq
      have := (List.append_inj' hqq rfl).1
      exact hstay r' q' (by rw [hh]; simp) hr q3 this
  refine ⟨?_, hV⟩
  exact {
    defers := h.defers
    fsz := by rw [(St.putOb_tm _ _ _ _).2.2]; exact h.fsz
    tm := fun t => by
      have hget : (((s.movT q r (p ++ [(i, j)])).dropOb q).putOb r p (setAt i j X)).get t = (s.movT q r (p ++ [(i, j)])).get t := by unfold St.get; rw [(St.putOb_tm _ _ _ _).1]; rfl
      rw [hget, St.get_movT]
      exact hV _ _ (h.tm t)
    blk := fun r' q' es' d' n' hh => by
      rw [hat'] at hh
      by_cases hr : r = r'
      · subst hr
        rw [if_pos rfl] at hh
        by_cases hpre : p <+: q'
        · obtain ⟨q1, rfl⟩ := hpre
          rw [putAt_at _ hsub] at hh
          cases q1 with
          | nil =>
            rw [List.append_nil] at *
            obtain ⟨rfl, rfl, rfl⟩ : setAt i j X es = es' ∧ d = d' ∧ n = n' := by simpa [sub] using hh
            have hb := h.blk r p es d n hat
            obtain ⟨e1, e2, e3, e4, e5⟩ := movGh_else g q r (p ++ [(i, j)]) (r' := r) (p' := p) (fun _ q2 hqq => by
              have := congrArg List.length hqq
              simp at this)
            refine ⟨by rw [e3]; exact hb.siz, fun hn => ?_, by rw [hlf, e4]; exact hb.len, fun i' e' he' => ?_, ?_, fun i' j' e' v' he' hv' => ?_⟩
            · rw [e5, hnl] at hn; cases hn
            · obtain ⟨e1', h1, h2, _⟩ := setAt_get he'
              rw [← h2, e3]; exact hb.row i' e1' h1
            · rw [e1, e2, e3, e4, e5]
              intro hn k hkk
              obtain ⟨m1, m2, m3⟩ := hb.mine hn k hkk
              exact ⟨hpmo _ _ _ _ (fun e => hqr e.symm) m1, m2, m3⟩
            · rw [e1, e2, e3]
              obtain ⟨e1', h1, h2, h3⟩ := setAt_get he'
              rcases h3 j' v' hv' with ⟨rfl, rfl, rfl⟩ | ⟨hne, hx⟩
              · refine ⟨c, hcc, ?_⟩
                have hr := hc.same (movGh_under g q r (p ++ [(i', j')]) [])
                rw [List.append_nil] at hr
                rcases hX with rfl | ⟨rfl, _, rfl⟩
                · exact hr
                · exact hr
              · obtain ⟨c', c1, c2⟩ := hb.cell i' j' e1' v' h1 hx
                refine ⟨c', c1, CR.mono (fun b o' c' h1 h2 => ⟨hk b o' c' h1 h2, h2⟩) (fun _ => movGh_else g q r _ (fun _ q2 hqq => ?_)) c2⟩
                rw [List.append_assoc] at hqq
                have := List.append_cancel_left hqq
                simp only [List.cons_append, List.nil_append, List.cons.injEq, Prod.mk.injEq] at this
                omega
          | cons x q2 =>
            obtain ⟨i', j'⟩ := x
            by_cases hij : i = i' ∧ j = j'
            · obtain ⟨rfl, rfl⟩ := hij
              rw [hXsub] at hh
              rw [happ q2]
              refine (h.blk q q2 es' d' n' hh).rename hk (movGh_under g q r _ q2) (fun b o' hh' => hpmq b o' q2 hh') (fun i' j' e' v' _ _ _ => ?_)
              have := movGh_under g q r (p ++ [(i, j)]) (q2 ++ [(i', j')])
              rwa [← List.append_assoc] at this
            · rw [sub_setAt_ne hij] at hh
              have hq' : s.at r (p ++ (i', j') :: q2) = some (es', d', n') := by
                unfold St.at; rw [ho]; dsimp only; rw [sub_append, hsub]; exact hh
              exact hfar r _ es' d' n' hq' (fun e => hqr e.symm) (fun hh => by
                have := congrArg List.length hh.2
                simp at this)
        · obtain ⟨e0, h1, h2⟩ := putAt_other (setAt i j X) hlf hsub hpre hh
          have hq' : s.at r q' = some (e0, d', n') := by unfold St.at; rw [ho]; exact h1
          exact (hfar r q' e0 d' n' hq' (fun e => hqr e.symm) (fun hh => hpre (by rw [hh.2]; exact List.prefix_refl _))).sim h2
      · rw [if_neg hr] at hh
        by_cases hrq : q = r'
        · rw [if_pos hrq] at hh; cases hh
        · rw [if_neg hrq] at hh
          exact hfar r' q' es' d' n' hh (fun e => hrq e.symm) (fun hh => hr hh.1.symm)
    fresh := fun r' hr' => by
      rw [(St.putOb_tm _ _ _ _).2.1] at hr'
      have hr' : s.nx ≤ r' := hr'
      unfold St.putOb
      rw [hobc]
      show look none ((r, some _) :: (q, none) :: s.ob) r' = none
      rw [look_cons, if_neg (fun e => by
        subst e
        rw [h.fresh r hr'] at ho; cases ho), look_cons]
      split
      · rfl
      · exact h.fresh r' hr'
    own := fun b o' hb => h.own b o' (fun e => hb ((hpmn b o').2 e))
    keep := h.keep
    low := fun b o' hb => h.low b o' (fun e => hb ((hpmn b o').2 e))
    ngnx := by rw [St.putOb_ng, (St.putOb_tm _ _ _ _).2.1]; exact h.ngnx
    top := fun k hk => by
      rw [St.putOb_ng] at hk
      have hk : k < s.ng := hk
      obtain ⟨t1, t2⟩ := h.top k hk
      refine ⟨?_, ?_⟩
      · obtain ⟨e1, e2, e3, e4, e5⟩ := movGh_else g q r (p ++ [(i, j)]) (r' := k) (p' := []) (fun _ q2 hqq => by
          have := congrArg List.length hqq
          simp at this)
        exact ⟨e1.trans t1.1, e2.trans t1.2.1, e3.trans t1.2.2.1, e4.trans t1.2.2.2.1, e5.trans t1.2.2.2.2⟩
      · rw [St.shape_putOb _ _ _ hlf]
        have : ((s.movT q r (p ++ [(i, j)])).dropOb q).shape k = s.shape k := by
          unfold St.shape St.obj St.dropOb St.movT
          dsimp only
          rw [look_cons, if_neg (by omega)]
        rw [this]; exact t2 }

def nilGh (g : Gh) (r n : Nat) : Gh :=
  ⟨g.blk, g.off, fun q p => if q = r then n else g.sz q p, fun q p => if q = r then 0 else g.cap q p, fun q p => if q = r then true else g.nl q p⟩
/-- A slice that is nil, as an object. -/
theorem R.newNil (h : R β s a w g pm) (d bx : Bool) (n : Nat) : R β (s.newOb ⟨[], d, n, bx⟩) a w (nilGh g s.nx n) pm ∧
    (∀ v x, VR w (okc β pm) g s.len v x → VR w (okc β pm) (nilGh g s.nx n) (s.newOb ⟨[], d, n, bx⟩).len v x) ∧ RefHdr (nilGh g s.nx n) s.nx [] 0 0 (.slice none 0 0) := by
  have hsame : ∀ r p, r ≠ s.nx → SameGh g (nilGh g s.nx n) r r p p := fun r p hr => by
    unfold SameGh nilGh; simp only [if_neg hr]; exact ⟨trivial, trivial, trivial, trivial, trivial⟩
  have hlenE : ∀ r p m, s.len r p = some m → (s.newOb ⟨[], d, n, bx⟩).len r p = some m ∧ SameGh g (nilGh g s.nx n) r r p p := fun r p m hm => by
    have hr : r ≠ s.nx := fun e => by
      unfold St.len at hm; rw [e, St.at_fresh h (Nat.le_refl _) p] at hm; cases hm
    refine ⟨?_, hsame r p hr⟩
    unfold St.len at hm ⊢
    rw [St.at_newOb, if_neg (fun e => hr e.symm)]; exact hm
  have hV : ∀ v x, VR w (okc β pm) g s.len v x → VR w (okc β pm) (nilGh g s.nx n) (s.newOb ⟨[], d, n, bx⟩).len v x := fun v x hv => hv.mono (fun _ _ _ h1 h2 => ⟨h1, h2⟩) hlenE
  refine ⟨?_, hV, .inl ⟨by simp [nilGh], rfl, rfl⟩⟩
  exact {
    defers := h.defers
    fsz := h.fsz
    tm := fun t => hV _ _ (h.tm t)
    blk := fun r p es' d' n' hh => by
      rw [St.at_newOb] at hh
      by_cases hr : s.nx = r
      · rw [if_pos hr] at hh
        subst hr
        cases p with
        | cons x p => simp [sub] at hh
        | nil =>
          obtain ⟨rfl, rfl, rfl⟩ : [] = es' ∧ d = d' ∧ n = n' := by simpa [sub] using hh
          exact ⟨by simp [nilGh], fun _ => rfl, by simp [nilGh], fun i e he => by simp at he, fun hn => by simp [nilGh] at hn, fun i j e v he => by simp at he⟩
      · rw [if_neg hr] at hh
        exact (h.blk r p es' d' n' hh).rename (fun _ _ _ h1 _ => h1) (hsame r p (fun e => hr e.symm)) (fun _ _ h1 => h1) (fun _ _ _ _ _ _ _ => hsame _ _ (fun e => hr e.symm))
    fresh := fun r hr => by
      show look none ((s.nx, some _) :: s.ob) r = none
      have hr : s.nx + 1 ≤ r := hr
      rw [look_cons, if_neg (by omega)]; exact h.fresh r (by omega)
    own := h.own
    keep := h.keep
    low := h.low
    ngnx := Nat.le_succ_of_le h.ngnx
    top := fun k hk => by
      have hk : k < s.ng := hk
      have hk' : k < s.nx := Nat.lt_of_lt_of_le hk h.ngnx
      obtain ⟨t1, t2⟩ := h.top k hk
      refine ⟨?_, by rw [St.shape_newOb _ _ hk']; exact t2⟩
      obtain ⟨e1, e2, e3, e4, e5⟩ := hsame k [] (by omega)
      exact ⟨e1.trans t1.1, e2.trans t1.2.1, e3.trans t1.2.2.1, e4.trans t1.2.2.2.1, e5.trans t1.2.2.2.2⟩ }
end
end Ev
namespace Ev
open Go Go.RowKit
set_option linter.unusedVariables false
set_option linter.unusedSimpArgs false

/-- How a whole object stands in a cell. -/
def formOf (bx : Bool) (p : Path) (d : Bool) (o : Ob) : Option V :=
  match p, bx with
  | [], true => some (.own o.deep o.sz o.es)
  | _, _ => match d, o.deep with
    | true, true => some (.sl o.sz o.es)
    | _, _ => none
def isBox (bx : Bool) (p : Path) : Bool :=
  match p with
  | [] => bx
  | _ => false
/-- A value that goes into a cell as it is. -/
def plainOf (box d : Bool) : V → Option V
  | .sc x => match Value.oneCell' x with
    | true => some (.sc x)
    | false => none
  | .sh n es => match box with
    | true => some (.sh n es)
    | false => match d with
      | true => none
      | false => some (.sl n es)
  | .shp cs => match box with
    | true => some (.shp cs)
    | false => none
  | .fn f [] => match box with
    | true => some (.fn f [])
    | false => none
  | _ => none

/-- An object that moves into a cell. -/
def moveOb (s : St) (r : Nat) (p : Path) (i j q : Nat) (X : V) : St := ((s.movT q r (p ++ [(i, j)])).dropOb q).putOb r p (setAt i j X)

def putCell (s : St) (r : Nat) (p : Path) (i j hint : Nat) (v : V) : Option (St × (V → V)) :=
  match s.obj r with
  | some o => match s.at r p with
    | some (es, d, _) => match es[i]? with
      | some e => match e[j]? with
        | some u => match v with
          | .hdr q [] => match Nat.beq q r with
            | false => match Nat.ble s.ng q with
              | true => match s.obj q with
                | some oq => match formOf o.bx p d oq with
                  | some X => some (moveOb ((s.clear u r p j).putOb r p (setAt i j .dead)) r p i j q X, fun x => mov q r (p ++ [(i, j)]) (clearV u r p j x))
                  | none => none
                | none => none
              | false => none
            | true => none
          | .sc (.slice none 0 0) => match d with
            | true => match formOf o.bx p true ⟨[], true, hint, false⟩ with
              | some X => some (moveOb (((s.clear u r p j).putOb r p (setAt i j .dead)).newOb ⟨[], true, hint, false⟩) r p i j s.nx X, fun x => mov s.nx r (p ++ [(i, j)]) (clearV u r p j x))
              | none => none
            | false => some ((s.clear u r p j).putOb r p (setAt i j (.sl hint [])), clearV u r p j)
          | v => match plainOf (isBox o.bx p) d v with
            | some v' => some ((s.clear u r p j).putOb r p (setAt i j v'), clearV u r p j)
            | none => none
        | none => none
      | none => none
    | none => none
  | none => none

def storeW (s : St) (r : Nat) (p : Path) (i : Nat) : Nat → List Nat → List V → Option (St × (V → V))
  | _, _, [] => some (s, fun v => v)
  | j, hs, v :: vs => match putCell s r p i j (hs.headD 0) v with
    | some (s1, K) => match storeW s1 r p i (j + 1) hs.tail (vs.map K) with
      | some (s2, K2) => some (s2, fun x => K2 (K x))
      | none => none
    | none => none
termination_by _ _ vs => vs.length
decreasing_by simp
/-- The same, told by the list alone. -/
def storeA (r : Nat) (p : Path) (i : Nat) : List V → (V → V) → St → Nat → List Nat → Option (St × (V → V))
  | [], _, s, _, _ => some (s, fun v => v)
  | v :: vs, A, s, j, hs => match putCell s r p i j (hs.headD 0) (A v) with
    | some (s1, K) => match storeA r p i vs (fun x => K (A x)) s1 (j + 1) hs.tail with
      | some (s2, K2) => some (s2, fun x => K2 (K x))
      | none => none
    | none => none
theorem storeA_eq (r : Nat) (p : Path) (i : Nat) : ∀ (vs : List V) (A : V → V) (s : St) (j : Nat) (hs : List Nat), storeA r p i vs A s j hs = storeW s r p i j hs (vs.map A)
  | [], A, s, j, hs => by unfold storeW; rfl
  | v :: vs, A, s, j, hs => by
    rw [List.map_cons]
    unfold storeW storeA
    cases putCell s r p i j (hs.headD 0) (A v) with
    | none => rfl
    | some y =>
      obtain ⟨s1, K⟩ := y
      dsimp only
      rw [storeA_eq r p i vs, List.map_map]
      rfl
def storeL (s : St) (r : Nat) (p : Path) (i : Nat) (j : Nat) (hs : List Nat) (vs : List V) : Option (St × (V → V)) := storeA r p i vs (fun v => v) s j hs
theorem storeL_eq (s : St) (r : Nat) (p : Path) (i : Nat) (j : Nat) (hs : List Nat) (vs : List V) : storeL s r p i j hs vs = storeW s r p i j hs vs := by
  unfold storeL
  rw [storeA_eq, show vs.map (fun v => v) = vs from List.map_id vs]

theorem VR.oneCell {w : World} {ok : Nat → Nat → Prop} {g : Gh} {at_ : Nat → Path → Option Nat} {box d : Bool} {v v' : V} {c : Value} (h : VR w ok g at_ v c) (hp : plainOf box d v = some v') : c.oneCell' = true := by
  cases h with
  | sc x =>
    simp only [plainOf] at hp
    split at hp
    · rename_i h1; exact h1
    · cases hp
  | sh n es c h => obtain ⟨A, cap, rfl, _⟩ := h.sl_len; rfl
  | shp => rfl
  | fn => rfl
  | _ => cases hp
theorem plainOf_ok {w : World} {ok : Nat → Nat → Prop} {g : Gh} {at_ : Nat → Path → Option Nat} {bx d : Bool} {r : Nat} {p : Path} {i j : Nat} {v v' : V} {c : Value} (h : VR w ok g at_ v c) (hp : plainOf (isBox bx p) d v = some v') : Plain d v' ∧ CR w ok g r p d i j v' c := by
  cases h with
  | sc x =>
    simp only [plainOf] at hp
    split at hp
    · obtain rfl := Option.some.inj hp; exact ⟨trivial, .sc _⟩
    · cases hp
  | sh n es c h =>
    simp only [plainOf] at hp
    split at hp
    · obtain rfl := Option.some.inj hp; exact ⟨trivial, .sh _ _ _ h⟩
    · split at hp
      · cases hp
      · obtain rfl := Option.some.inj hp; exact ⟨rfl, h⟩
  | shp cs b o vals h1 h2 =>
    simp only [plainOf] at hp
    split at hp
    · obtain rfl := Option.some.inj hp; exact ⟨trivial, .shp cs b o vals h1 h2⟩
    · cases hp
  | fn f caps xs hl hx =>
    cases caps with
    | nil =>
      simp only [plainOf] at hp
      split at hp
      · obtain rfl := Option.some.inj hp
        exact ⟨trivial, .fn f [] xs hl (fun k v x hv => by simp at hv)⟩
      · cases hp
    | cons => cases hp
  | _ => cases hp
theorem formOf_ok {bx : Bool} {p : Path} {d : Bool} {o : Ob} {X : V} (h : formOf bx p d o = some X) : X = .own o.deep o.sz o.es ∨ (d = true ∧ o.deep = true ∧ X = .sl o.sz o.es) := by
  unfold formOf at h
  split at h
  · exact .inl (Option.some.inj h).symm
  · split at h
    · rename_i hd; exact .inr ⟨rfl, hd, (Option.some.inj h).symm⟩
    · cases h

theorem run_store_mine {P : Program} {w : World} {pm : Nat → Nat → Option (Nat × Path)} {r : Nat} {p : Path} {b o : Nat} (hm : Mine w pm r p b o) {c : Value} (h1 : c.oneCell' = true) : (store ⟨b, o, none⟩ c).run P w = .ok () (w.setCell ⟨b, o, none⟩ c) := by
  obtain ⟨_, h2, h3⟩ := hm
  obtain ⟨u, hu⟩ := Option.isSome_iff_exists.1 h3
  rw [run_store P w _ c _ h1, hu]
  simp [h2]

section
variable {β : Base} {s : St} {a : Act} {w : World} {g : Gh} {pm : Nat → Nat → Option (Nat × Path)} {C : Ctx}

theorem St.at_set {s : St} {r : Nat} {p : Path} {es : List (List V)} {d : Bool} {n : Nat} (hat : s.at r p = some (es, d, n)) {i j : Nat} (u v : V) : ((s.clear u r p j).putOb r p (setAt i j v)).at r p = some (setAt i j v es, d, n) := by
  obtain ⟨o, ho⟩ : ∃ o, s.obj r = some o := by
    unfold St.at at hat
    cases ho : s.obj r with
    | none => rw [ho] at hat; cases hat
    | some o => exact ⟨o, rfl⟩
  have hsub : sub o.deep o.sz o.es p = some (es, d, n) := by unfold St.at at hat; rw [ho] at hat; exact hat
  have hobc : (s.clear u r p j).obj r = some o := by unfold St.obj; rw [(s.clear_ob u r p j).1]; exact ho
  rw [St.at_putOb hobc, if_pos rfl]
  have := putAt_at (setAt i j v) hsub []
  rwa [List.append_nil] at this
theorem St.at_move {s : St} {r : Nat} {p : Path} {es : List (List V)} {d : Bool} {n : Nat} (hat : s.at r p = some (es, d, n)) {q : Nat} (hqr : q ≠ r) {i j : Nat} (X : V) : (moveOb s r p i j q X).at r p = some (setAt i j X es, d, n) := by
  obtain ⟨o, ho⟩ : ∃ o, s.obj r = some o := by
    unfold St.at at hat
    cases ho : s.obj r with
    | none => rw [ho] at hat; cases hat
    | some o => exact ⟨o, rfl⟩
  have hsub : sub o.deep o.sz o.es p = some (es, d, n) := by unfold St.at at hat; rw [ho] at hat; exact hat
  have hobc : ((s.movT q r (p ++ [(i, j)])).dropOb q).obj r = some o := by
    show look none ((q, none) :: s.ob) r = some o
    rw [look_cons, if_neg hqr]; exact ho
  unfold moveOb
  rw [St.at_putOb hobc, if_pos rfl]
  have := putAt_at (setAt i j X) hsub []
  rwa [List.append_nil] at this
theorem St.obj_set {s : St} {r : Nat} {p : Path} {j : Nat} {u : V} {f : List (List V) → List (List V)} {q : Nat} (h : q ≠ r) : ((s.clear u r p j).putOb r p f).obj q = s.obj q := by
  unfold St.putOb
  split
  · show look none ((r, some _) :: (s.clear u r p j).ob) q = _
    rw [look_cons, if_neg (fun e => h e.symm), (s.clear_ob u r p j).1]; rfl
  · unfold St.obj; rw [(s.clear_ob u r p j).1]
theorem clearV_root {u : V} {r : Nat} {p : Path} {j q : Nat} (h : q ≠ r) : clearV u r p j (.hdr q []) = .hdr q [] := by
  have : hitAt r p j q [] = false := by
    unfold hitAt
    cases e : Nat.beq r q with
    | true => exact absurd (Nat.eq_of_beq_eq_true e).symm h
    | false => rfl
  cases u <;> first | rfl | (simp only [clearV, kill, kill2, kill1, this])

/-- What a value that went into a cell has left behind. -/
structure Put (β : Base) (s : St) (a : Act) (w : World) (g : Gh) (pm : Nat → Nat → Option (Nat × Path)) (s' : St) (K : V → V) (w' : World) (r : Nat) (p : Path) : Prop where
  ex : ∃ g' pm', R β s' a w' g' pm' ∧ (∀ v x, VR w (okc β pm) g s.len v x → VR w' (okc β pm') g' s'.len (K v) x) ∧ SameGh g g' r r p p ∧ s'.len r p = s.len r p

theorem putCell_ok (h : R β s a w g pm) {r : Nat} {p : Path} {i j hint : Nat} {v : V} {c : Value} (hv : VR w (okc β pm) g s.len v c) {s' : St} {K : V → V} (hp : putCell s r p i j hint v = some (s', K)) :
    c.oneCell' = true ∧ Mine w pm r p (g.blk r p) (g.off r p + i * g.sz r p + j) ∧ Put β s a w g pm s' K (w.setCell ⟨g.blk r p, g.off r p + i * g.sz r p + j, none⟩ c) r p := by
  unfold putCell at hp
  split at hp
  case h_2 => cases hp
  rename_i _ o ho
  split at hp
  case h_2 => cases hp
  rename_i _ es d n hat
  split at hp
  case h_2 => cases hp
  rename_i _ e he
  split at hp
  case h_2 => cases hp
  rename_i _ u hu
  obtain ⟨hnl, hj, hi, hm⟩ := h.place hat he hu
  have hcell : (w.setCell ⟨g.blk r p, g.off r p + i * g.sz r p + j, none⟩ c).cell? ⟨g.blk r p, g.off r p + i * g.sz r p + j, none⟩ = some c := by rw [setCell_cell w _ _ c hm.2.2, if_pos ⟨rfl, rfl⟩]
  have hone : ∀ r p o n, RefHdr g r p o n c → c.oneCell' = true := fun r p o n hh => by obtain ⟨A, cap, rfl⟩ := hh.len; rfl
  have hatd := St.at_set hat (i := i) (j := j) u V.dead
  obtain ⟨ed, hed, hud⟩ := setAt_cell (v := V.dead) he hu
  have hln : ∀ (s' : St) (es' : List (List V)) (d' : Bool) (n' : Nat), s'.at r p = some (es', d', n') → es'.length = es.length → s'.len r p = s.len r p := fun s' es' d' n' h1 h2 => by
    unfold St.len; rw [h1, hat]; simp [h2]
  split at hp
  · rename_i q
    split at hp
    case h_2 => cases hp
    rename_i hqr
    have hqr : q ≠ r := fun e => by rw [e, Nat.beq_refl] at hqr; cases hqr
    split at hp
    case h_2 => cases hp
    rename_i hqng
    have hqng : s.ng ≤ q := Nat.le_of_ble_eq_true hqng
    split at hp
    case h_2 => cases hp
    rename_i _ oq hq
    split at hp
    case h_2 => cases hp
    rename_i _ X hX
    simp only [Option.some.injEq, Prod.mk.injEq] at hp
    obtain ⟨rfl, rfl⟩ := hp
    obtain ⟨h1, hV1⟩ := h.set1 hat he hu (v := V.dead) (c := c) trivial (.dead _)
    have hv1 := hV1 _ _ hv
    rw [clearV_root hqr] at hv1
    cases hv1 with
    | hdr _ _ m _ hn hc =>
      have hq1 : ((s.clear u r p j).putOb r p (setAt i j V.dead)).obj q = some oq := by rw [St.obj_set hqr]; exact hq
      have hlen : m = oq.es.length := by
        unfold St.len St.at at hn
        rw [hq1] at hn
        exact (Option.some.inj hn).symm
      subst hlen
      obtain ⟨h2, hV2⟩ := h1.adopt hatd hed hud hq1 hqr (by rw [St.putOb_ng, St.clear_ng]; exact hqng) hcell hc (formOf_ok hX)
      exact ⟨hone _ _ _ _ hc, hm, ⟨_, _, h2, fun v x hvx => hV2 _ _ (hV1 _ _ hvx), movGh_else _ _ _ _ (fun _ q2 hqq => by
        have := congrArg List.length hqq
        simp at this), hln _ _ _ _ (St.at_move hatd hqr X) (by rw [setAt_length, setAt_length])⟩⟩
  · obtain rfl := hv.sc_inv
    split at hp
    · split at hp
      case h_2 => cases hp
      rename_i _ X hX
      simp only [Option.some.injEq, Prod.mk.injEq] at hp
      obtain ⟨rfl, rfl⟩ := hp
      obtain ⟨h1, hV1⟩ := h.set1 hat he hu (v := V.dead) (c := .slice none 0 0) trivial (.dead _)
      have hnx : ((s.clear u r p j).putOb r p (setAt i j V.dead)).nx = s.nx := by rw [(St.putOb_tm _ _ _ _).2.1, (s.clear_ob u r p j).2.1]
      have hrnx : s.nx ≠ r := fun e => by rw [← e, h.fresh s.nx (Nat.le_refl _)] at ho; cases ho
      obtain ⟨h2, hV2, hr2⟩ := h1.newNil true false hint
      rw [hnx] at h2 hV2 hr2
      have hat2 : (((s.clear u r p j).putOb r p (setAt i j V.dead)).newOb ⟨[], true, hint, false⟩).at r p = some (setAt i j V.dead es, true, n) := by rw [St.at_newOb, hnx, if_neg hrnx]; exact hatd
      have hob2 : (((s.clear u r p j).putOb r p (setAt i j V.dead)).newOb ⟨[], true, hint, false⟩).obj s.nx = some ⟨[], true, hint, false⟩ := by
        show look none ((((s.clear u r p j).putOb r p (setAt i j V.dead)).nx, some _) :: _) s.nx = _
        rw [hnx, look_cons, if_pos rfl]
      obtain ⟨e1, e2, e3, e4, e5⟩ : SameGh g (nilGh g s.nx hint) r r p p := by
        unfold SameGh nilGh; simp only [if_neg (fun e : r = s.nx => hrnx e.symm)]; exact ⟨trivial, trivial, trivial, trivial, trivial⟩
      obtain ⟨h3, hV3⟩ := h2.adopt hat2 hed hud hob2 hrnx (by have : s.ng ≤ s.nx := h.ngnx; show ((s.clear u r p j).putOb r p (setAt i j V.dead)).ng ≤ s.nx; rw [St.putOb_ng, St.clear_ng]; exact this) (c := .slice none 0 0) (by rw [e1, e2, e3]; exact hcell) hr2 (formOf_ok hX)
      refine ⟨rfl, hm, ⟨_, _, h3, fun v x hvx => hV3 _ _ (hV2 _ _ (hV1 _ _ hvx)), ?_⟩⟩
      obtain ⟨f1, f2, f3, f4, f5⟩ := movGh_else (nilGh g s.nx hint) s.nx r (p ++ [(i, j)]) (r' := r) (p' := p) (fun _ q2 hqq => by
        have := congrArg List.length hqq
        simp at this)
      exact ⟨⟨f1.trans e1, f2.trans e2, f3.trans e3, f4.trans e4, f5.trans e5⟩, hln _ _ _ _ (St.at_move hat2 hrnx X) (by rw [setAt_length, setAt_length])⟩
    · simp only [Option.some.injEq, Prod.mk.injEq] at hp
      obtain ⟨rfl, rfl⟩ := hp
      obtain ⟨h1, hV1⟩ := h.set1 hat he hu (v := .sl hint []) (c := .slice none 0 0) rfl (SR.nil hint none 0)
      exact ⟨rfl, hm, ⟨_, _, h1, hV1, ⟨rfl, rfl, rfl, rfl, rfl⟩, hln _ _ _ _ (St.at_set hat u _) (setAt_length _ _ _ _)⟩⟩
  · split at hp
    case h_2 => cases hp
    rename_i _ v' hv'
    simp only [Option.some.injEq, Prod.mk.injEq] at hp
    obtain ⟨rfl, rfl⟩ := hp
    obtain ⟨p1, p2⟩ := plainOf_ok (r := r) (i := i) (j := j) hv hv'
    obtain ⟨h1, hV1⟩ := h.set1 hat he hu p1 p2
    exact ⟨hv.oneCell hv', hm, ⟨_, _, h1, hV1, ⟨rfl, rfl, rfl, rfl, rfl⟩, hln _ _ _ _ (St.at_set hat u _) (setAt_length _ _ _ _)⟩⟩
end
end Ev
namespace Ev
open Go Go.RowKit
set_option linter.unusedVariables false
set_option linter.unusedSimpArgs false

theorem setCell_self {w : World} {b o : Nat} {c : Value} (h : w.cell? ⟨b, o, none⟩ = some c) : w.setCell ⟨b, o, none⟩ c = w := by
  unfold World.cell? at h
  dsimp only at h
  have hb : b < w.heap.size := by
    rcases Nat.lt_or_ge b w.heap.size with hb | hb
    · exact hb
    · rw [Array.getElem?_eq_none hb] at h; cases h
  rw [Array.getElem?_eq_getElem hb] at h
  have key : w.heap.modify b (fun
      | .cells c' elem frozen => .cells (if (none : Option Nat).isSome then c' else c'.setIfInBounds o c) elem frozen
      | o => o) = w.heap := by
    apply Array.ext_getElem?
    intro k
    rw [Array.getElem?_modify]
    by_cases hk : b = k
    · subst hk
      rw [if_pos rfl, Array.getElem?_eq_getElem hb]
      cases hx : w.heap[b] with
      | cells cs e f =>
        rw [hx] at h
        simp only [Option.isSome_none, Bool.false_eq_true, if_false] at h
        have : cs.setIfInBounds o c = cs := by
          apply Array.ext_getElem?
          intro m
          by_cases hm : o = m
          · subst hm
            rw [Array.getElem?_setIfInBounds_self, h]
            have := (Array.getElem?_eq_some_iff.1 h).1
            simp [this]
          · rw [Array.getElem?_setIfInBounds_ne hm]
        simp [this]
      | _ => rw [hx] at h; cases h
    · rw [if_neg hk]
  exact congrArg (fun h => ({ w with heap := h } : World)) key
theorem setCells_self {w : World} {b : Nat} : ∀ {cs : List Value} {o : Nat}, (∀ (k : Nat) (c : Value), cs[k]? = some c → w.cell? ⟨b, o + k, none⟩ = some c) → w.setCells b o cs = w
  | [], o, h => rfl
  | c :: cs, o, h => by
    show (w.setCell ⟨b, o, none⟩ c).setCells b (o + 1) cs = w
    rw [setCell_self (by simpa using h 0 c rfl)]
    exact setCells_self (fun k c' hc => by have := h (k + 1) c' hc; rwa [show o + 1 + k = o + (k + 1) by omega])

section
variable {β : Base} {a : Act} {C : Ctx}

theorem storeW_ok {P : Program} {r : Nat} {p : Path} {i : Nat} : ∀ (vs : List V) (cs : List Value) (j : Nat) (hs : List Nat) (s : St) (w : World) (g : Gh) (pm : Nat → Nat → Option (Nat × Path)) (s' : St) (K : V → V) (b o k0 : Nat),
    R β s a w g pm → cs.length = vs.length → (∀ (k : Nat) (v : V) (c : Value), vs[k]? = some v → cs[k]? = some c → VR w (okc β pm) g s.len v c) → storeW s r p i j hs vs = some (s', K) → (vs = [] ∨ b = g.blk r p ∧ o + k0 = g.off r p + i * g.sz r p + j) →
    (storeCells ⟨b, o, none⟩ cs k0).run P w = .ok () (w.setCells b (o + k0) cs) ∧ Put β s a w g pm s' K (w.setCells b (o + k0) cs) r p
  | [], cs, j, hs, s, w, g, pm, s', K, b, o, k0, h, hl, hv, hp, hb => by
    obtain rfl := List.eq_nil_of_length_eq_zero hl
    unfold storeW at hp
    simp only [Option.some.injEq, Prod.mk.injEq] at hp
    obtain ⟨rfl, rfl⟩ := hp
    exact ⟨rfl, ⟨g, pm, h, fun v x hvx => hvx, ⟨rfl, rfl, rfl, rfl, rfl⟩, rfl⟩⟩
  | v :: vs, [], j, hs, s, w, g, pm, s', K, b, o, k0, h, hl, hv, hp, hb => by cases hl
  | v :: vs, c :: cs, j, hs, s, w, g, pm, s', K, b, o, k0, h, hl, hv, hp, hb => by
    obtain ⟨rfl, hb2⟩ := hb.resolve_left (by simp)
    unfold storeW at hp
    split at hp
    case h_2 => cases hp
    rename_i _ s1 K1 hp1
    split at hp
    case h_2 => cases hp
    rename_i _ s2 K2 hp2
    simp only [Option.some.injEq, Prod.mk.injEq] at hp
    obtain ⟨rfl, rfl⟩ := hp
    obtain ⟨h1, hm, ⟨g1, pm1, hR1, hV1, hg1, hl1⟩⟩ := putCell_ok h (hv 0 v c rfl rfl) hp1
    rw [← hb2] at hm hR1 hV1
    obtain ⟨e1, e2, e3, e4, e5⟩ := hg1
    obtain ⟨r2, ⟨g2, pm2, hR2, hV2, hg2, hl2⟩⟩ := storeW_ok (P := P) (vs.map K1) cs (j + 1) hs.tail s1 _ g1 pm1 s2 K2 (g.blk r p) o (k0 + 1) hR1 (by simpa using hl) (fun k v' c' hv' hc' => by
      rw [List.getElem?_map] at hv'
      cases e : vs[k]? with
      | none => rw [e] at hv'; cases hv'
      | some u =>
        rw [e] at hv'
        obtain rfl := Option.some.inj hv'
        exact hV1 _ _ (hv (k + 1) u c' e hc')) hp2 (.inr ⟨e1.symm, by rw [e2, e3]; omega⟩)
    have hset : w.setCells (g.blk r p) (o + k0) (c :: cs) = (w.setCell ⟨g.blk r p, o + k0, none⟩ c).setCells (g.blk r p) (o + (k0 + 1)) cs := by rw [← Nat.add_assoc]; rfl
    refine ⟨?_, ⟨g2, pm2, by rw [hset]; exact hR2, fun v' x hvx => by rw [hset]; exact hV2 _ _ (hV1 _ _ hvx), ?_⟩⟩
    · rw [hset]
      unfold storeCells
      simp only [Sem.run_bind, Addr.add_off]
      rw [run_store_mine hm h1]
      exact r2
    · obtain ⟨f1, f2, f3, f4, f5⟩ := hg2
      exact ⟨⟨f1.trans e1, f2.trans e2, f3.trans e3, f4.trans e4, f5.trans e5⟩, hl2.trans hl1⟩
termination_by vs => vs.length
decreasing_by simp

theorem storeL_ok {P : Program} {r : Nat} {p : Path} {i : Nat} (vs : List V) (cs : List Value) (j : Nat) (hs : List Nat) (s : St) (w : World) (g : Gh) (pm : Nat → Nat → Option (Nat × Path)) (s' : St) (K : V → V) (b o k0 : Nat) (h : R β s a w g pm) (hl : cs.length = vs.length) (hv : ∀ (k : Nat) (v : V) (c : Value), vs[k]? = some v → cs[k]? = some c → VR w (okc β pm) g s.len v c) (hp : storeL s r p i j hs vs = some (s', K)) (hb : vs = [] ∨ b = g.blk r p ∧ o + k0 = g.off r p + i * g.sz r p + j) :
    (storeCells ⟨b, o, none⟩ cs k0).run P w = .ok () (w.setCells b (o + k0) cs) ∧ Put β s a w g pm s' K (w.setCells b (o + k0) cs) r p :=
  storeW_ok vs cs j hs s w g pm s' K b o k0 h hl hv (by rw [← storeL_eq]; exact hp) hb
end
end Ev
namespace Ev
open Go Go.RowKit
set_option linter.unusedVariables false
set_option linter.unusedSimpArgs false

/-- What a type's cells are told beside: how many cells an element of a nil slice has. -/
abbrev Hints := TypeId → List Nat

def cellsV : V → List V
  | .agg vs => vs
  | v => [v]
def zeroV : List Nat → List Value → List V
  | _, [] => []
  | hs, x :: xs => (match x with
    | .slice none 0 0 => V.sl (hs.headD 0) []
    | x => V.sc x) :: zeroV hs.tail xs

def evNew (s : St) (k : Nat) (hs : List Nat) (vs : List V) : Option (V × St) :=
  match storeL (s.newOb ⟨[List.replicate k .dead], true, k, true⟩) s.nx [] 0 0 hs vs with
  | some (s', _) => some (.ptr s.nx [] 0 0, s')
  | none => none
def evStore (C : Ctx) (hz : Hints) (s : St) (t : TypeId) (a v : V) : Option St :=
  match C.ty t with
  | some i => match Nat.beq (cellsV v).length i.size with
    | true => match a with
      | .ptr r p k j => match storeL s r p k j (hz t) (cellsV v) with
        | some (s', _) => some s'
        | none => none
      | _ => none
    | false => none
  | none => none
def evMake (C : Ctx) (hz : Hints) (s : St) (t : TypeId) (l c : V) : Option (V × St) :=
  match C.ty t with
  | some ⟨_, .slice e, _, _⟩ => match C.ty e with
    | some ei => match l with
      | .sc (.int _ l) => match c with
        | .sc (.int _ c) => match decide (0 ≤ l) && (decide (l ≤ c) && decide ((ei.bytes : Int) * c ≤ 281474976710656)) && decide (c ≤ 9223372036854775807) with
          | true => match Nat.beq ei.zero.length ei.size && ei.zero.all Value.oneCell' with
            | true => some (.hdr s.nx [], s.newOb ⟨List.replicate l.toNat (zeroV (hz e) ei.zero), true, ei.size, false⟩)
            | false => none
          | false => none
        | _ => none
      | _ => none
    | none => none
  | _ => none

section
variable {β : Base} {s : St} {a : Act} {w : World} {g : Gh} {pm : Nat → Nat → Option (Nat × Path)} {C : Ctx}

/-- A value's cells, told one by one. -/
theorem cellsV_ok {ok : Nat → Nat → Prop} {at_ : Nat → Path → Option Nat} {v : V} {x : Value} (h : VR w ok g at_ v x) (h1 : ∀ vs, v ≠ .tup vs) (hd : v ≠ .dead) (hagg : ∀ c, v = .sc c → c.cells = #[c]) :
    x.cells.toList.length = (cellsV v).length ∧ ∀ (k : Nat) (u : V) (c : Value), (cellsV v)[k]? = some u → x.cells.toList[k]? = some c → VR w ok g at_ u c := by
  have one : ∀ v, VR w ok g at_ v x → cellsV v = [v] → x.cells = #[x] → x.cells.toList.length = (cellsV v).length ∧ ∀ (k : Nat) (u : V) (c : Value), (cellsV v)[k]? = some u → x.cells.toList[k]? = some c → VR w ok g at_ u c := fun v hv e1 e2 => by
    rw [e1, e2]
    refine ⟨rfl, fun k u c hu hc => ?_⟩
    cases k with
    | zero =>
      obtain rfl := Option.some.inj (show some v = some u from hu)
      obtain rfl := Option.some.inj (show some x = some c from hc)
      exact hv
    | succ k => simp at hu
  cases h with
  | agg vs xs hl hx => exact ⟨by simpa [Value.cells, cellsV] using hl, fun k u c hu hc => hx k u c hu (by simpa [Value.cells] using hc)⟩
  | sc x => exact one _ (.sc _) rfl (hagg _ rfl)
  | sh n es c h => obtain ⟨A, cap, rfl, _⟩ := h.sl_len; exact one _ (.sh n es _ h) rfl rfl
  | shp cs b o vals a1 a2 => exact one _ (.shp cs b o vals a1 a2) rfl rfl
  | hdr r p n c hn h => obtain ⟨A, cap, rfl⟩ := h.len; exact one _ (.hdr r p n _ hn h) rfl rfl
  | part r p o len n c hn hl h => obtain ⟨A, cap, rfl⟩ := h.len; exact one _ (.part r p o len n _ hn hl h) rfl rfl
  | ptr r p i j n hn hl => exact one _ (.ptr r p i j n hn hl) rfl rfl
  | bxr vs b o xs a1 a2 => exact one _ (.bxr vs b o xs a1 a2) rfl rfl
  | fn f caps xs hl hx => exact one _ (.fn f caps xs hl hx) rfl rfl
  | tup vs => exact absurd rfl (h1 vs)
  | dead => exact absurd rfl hd

/-- A new box. -/
theorem R.box {P : Program} (h : R β s a w g pm) {k : Nat} {hs : List Nat} {vs : List V} {cs : Array Value} (t : TypeId) (hk : cs.size = k) (hl : cs.toList.length = vs.length) (hv : ∀ (k : Nat) (u : V) (c : Value), vs[k]? = some u → cs.toList[k]? = some c → VR w (okc β pm) g s.len u c)
    {v : V} {s' : St} (he : evNew s k hs vs = some (v, s')) : ∃ g' pm', R β s' a { w with heap := w.heap.push (.cells cs t) } g' pm' ∧ VR { w with heap := w.heap.push (.cells cs t) } (okc β pm') g' s'.len v (.pointer (some ⟨w.heap.size, 0, none⟩)) := by
  unfold evNew at he
  split at he
  case h_2 => cases he
  rename_i _ s1 K hst
  simp only [Option.some.injEq, Prod.mk.injEq] at he
  obtain ⟨rfl, rfl⟩ := he
  obtain ⟨h1, hV1⟩ := h.allocZ (es := [List.replicate k .dead]) (d := true) (bx := true) (n := k) (cap := 1) (fun _ => 0) (cs := cs) t (fun i e hi => by
      cases i with
      | zero => obtain rfl := Option.some.inj hi; simp
      | succ i => simp at hi) (by simp) (by simpa using hk) (fun i j e u hi hj => by
      cases i with
      | succ i => simp at hi
      | zero =>
        obtain rfl := Option.some.inj hi
        have hj' := (List.getElem?_eq_some_iff.1 hj).1
        rw [List.length_replicate] at hj'
        rw [List.getElem?_replicate, if_pos hj'] at hj
        obtain rfl := Option.some.inj hj
        exact ⟨cs[j]'(by omega), by simp [Array.getElem?_eq_getElem (show j < cs.size by omega)], .inl ⟨trivial, .dead _⟩⟩)
  have hcells : ∀ (m : Nat) (c : Value), cs.toList[m]? = some c → ({ w with heap := w.heap.push (.cells cs t) } : World).cell? ⟨w.heap.size, 0 + m, none⟩ = some c := fun m c hm => by
    rw [(push_new w cs t _).1, Nat.zero_add]; simpa using hm
  obtain ⟨_, ⟨g2, pm2, hR2, hV2, ⟨e1, e2, e3, e4, e5⟩, hl2⟩⟩ := storeL_ok (P := P) vs cs.toList 0 hs _ _ _ _ s1 K w.heap.size 0 0 h1 hl (fun m u c hu hc => hV1 _ _ (hv m u c hu hc)) hst (.inr ⟨by simp [newGh], by simp [newGh]⟩)
  rw [Nat.add_zero, setCells_self hcells] at hR2 hV2
  refine ⟨g2, pm2, hR2, ?_⟩
  have hln : s1.len s.nx [] = some 1 := by
    rw [hl2]; unfold St.len; rw [St.at_newOb, if_pos rfl]; rfl
  have := VR.ptr (w := { w with heap := w.heap.push (.cells cs t) }) (ok := okc β pm2) (g := g2) (at_ := s1.len) s.nx [] 0 0 1 hln (by rw [e5]; simp [newGh, newNl])
  rw [e1, e2, e3] at this
  simpa [newGh] using this

theorem zeroV_get : ∀ (hs : List Nat) (xs : List Value) (k : Nat) (x : Value), xs[k]? = some x → ∃ v, (zeroV hs xs)[k]? = some v ∧ ((x = .slice none 0 0 ∧ v = .sl (hs.getD k 0) []) ∨ v = .sc x)
  | hs, [], k, x, h => by simp at h
  | hs, y :: ys, 0, x, h => by
    obtain rfl := Option.some.inj h
    unfold zeroV
    split
    · exact ⟨_, rfl, .inl ⟨rfl, by cases hs <;> rfl⟩⟩
    · exact ⟨_, rfl, .inr rfl⟩
  | hs, y :: ys, k + 1, x, h => by
    obtain ⟨v, h1, h2⟩ := zeroV_get hs.tail ys k x (by simpa using h)
    refine ⟨v, by unfold zeroV; simpa using h1, ?_⟩
    rcases h2 with ⟨rfl, rfl⟩ | rfl
    · exact .inl ⟨rfl, by cases hs <;> simp⟩
    · exact .inr rfl
theorem zeroV_length : ∀ (hs : List Nat) (xs : List Value), (zeroV hs xs).length = xs.length
  | hs, [] => rfl
  | hs, y :: ys => by unfold zeroV; simp [zeroV_length hs.tail ys]
end
end Ev
namespace Ev
open Go Go.RowKit
set_option linter.unusedVariables false
set_option linter.unusedSimpArgs false
section
variable {β : Base} {s : St} {a : Act} {w : World} {g : Gh} {pm : Nat → Nat → Option (Nat × Path)} {C : Ctx}

/-- A value that can be told cell by cell. -/
def tellable : V → Bool
  | .tup _ => false
  | .dead => false
  | .sc (.agg _) => false
  | _ => true
theorem tell {ok : Nat → Nat → Prop} {at_ : Nat → Path → Option Nat} {v : V} {x : Value} (h : VR w ok g at_ v x) (ht : tellable v = true) :
    x.cells.toList.length = (cellsV v).length ∧ ∀ (k : Nat) (u : V) (c : Value), (cellsV v)[k]? = some u → x.cells.toList[k]? = some c → VR w ok g at_ u c := by
  refine cellsV_ok h (fun vs e => ?_) (fun e => ?_) (fun c e => ?_)
  · subst e; cases ht
  · subst e; cases ht
  · subst e
    cases c <;> first | rfl | cases ht

theorem evStore_ok {hz : Hints} (hty : ∀ t i, C.ty t = some i → tyOf C.P t = some i) (h : R β s a w g pm) {t : TypeId} {u v : V} {x y : Value} (hu : VR w (okc β pm) g s.len u x) (hv : VR w (okc β pm) g s.len v y) (htell : tellable v = true) {s' : St}
    (he : evStore C hz s t u v = some s') : ∃ w' g' pm', (Instr.storeAt t x y).run C.P w = .ok () w' ∧ R β s' a w' g' pm' := by
  unfold evStore at he
  split at he
  case h_2 => cases he
  rename_i _ i ht
  obtain ⟨info, d, z, h1, h2, h3, rfl⟩ := ty_info (hty t i ht)
  split at he
  case h_2 => cases he
  rename_i hsz
  have hsz : (cellsV v).length = info.size := Nat.eq_of_beq_eq_true hsz
  cases hu with
  | ptr r p k j n hn hl =>
    dsimp only at he
    split at he
    case h_2 => cases he
    rename_i _ s1 K hst
    obtain rfl := Option.some.inj he
    obtain ⟨c1, c2⟩ := tell hv htell
    obtain ⟨r1, ⟨g', pm', hR, _⟩⟩ := storeL_ok (P := C.P) (cellsV v) y.cells.toList j (hz t) s w g pm s1 K (g.blk r p) (g.off r p + k * g.sz r p + j) 0 h c1 c2 hst (.inr ⟨rfl, rfl⟩)
    refine ⟨_, g', pm', ?_, hR⟩
    have hsz' : y.cells.size = info.size := by rw [← hsz, ← c1]; simp
    simp only [Instr.storeAt, Instr.sureAddr, Sem.run_bind, Sem.run_pure, Result.andThen_ok, storeVar, run_size h1]
    rw [if_neg (by simpa using hsz')]
    simpa using r1
  | _ => cases he

theorem made_get {z : Array Value} {n m i j : Nat} (hz : z.size = n) (hj : j < n) (hm : i * n + j < m) : (madeCells z m)[i * n + j]? = z[j]? := by
  unfold madeCells
  rw [Array.getElem?_map, Array.getElem?_range, if_pos hm]
  simp only [Option.map_some]
  have : (i * n + j) % z.size = j := by rw [hz, Nat.mul_comm, Nat.mul_add_mod, Nat.mod_eq_of_lt hj]
  rw [this]
  simp [hz, hj]

theorem evMake_ok {hz : Hints} (hty : ∀ t i, C.ty t = some i → tyOf C.P t = some i) (h : R β s a w g pm) {t : TypeId} {l c v : V} {x y : Value} (hl : VR w (okc β pm) g s.len l x) (hc : VR w (okc β pm) g s.len c y) {s' : St}
    (he : evMake C hz s t l c = some (v, s')) : ∃ z w' g' pm', (Instr.makeSlice t x y).run C.P w = .ok z w' ∧ R β s' a w' g' pm' ∧ VR w' (okc β pm') g' s'.len v z := by
  unfold evMake at he
  split at he
  case h_2 => cases he
  rename_i _ sz e zz by_ ht
  obtain ⟨info, d, z, h1, h2, h3, h4⟩ := ty_info (hty t _ ht)
  simp only [TyI.mk.injEq] at h4
  obtain rfl := knOf_slice h4.2.1.symm
  split at he
  case h_2 => cases he
  rename_i _ ei hei
  obtain ⟨einfo, ed, ez, e1, e2, e3, rfl⟩ := ty_info (hty e _ hei)
  split at he
  case h_2 => cases he
  rename_i _ kl l
  obtain rfl := hl.sc_inv
  split at he
  case h_2 => cases he
  rename_i _ kc c
  obtain rfl := hc.sc_inv
  split at he
  case h_2 => cases he
  rename_i _ hcond
  simp only [Bool.and_eq_true, decide_eq_true_eq] at hcond
  obtain ⟨⟨c0, c1, c2⟩, c3⟩ := hcond
  split at he
  case h_2 => cases he
  rename_i _ hzz
  simp only [Bool.and_eq_true] at hzz
  obtain ⟨hz1, hz2⟩ := hzz
  have hz1 : ez.cells.toList.length = einfo.size := Nat.eq_of_beq_eq_true hz1
  have hzs : ez.cells.size = einfo.size := by rw [← hz1]; simp
  simp only [Option.some.injEq, Prod.mk.injEq] at he
  obtain ⟨rfl, rfl⟩ := he
  have hr := run_make (P := C.P) w t e einfo ez h2 e1 e3 kl kc l c c0 c1 c2 c3
  have hget : ∀ (i : Nat) (q : List V), (List.replicate l.toNat (zeroV (hz e) ez.cells.toList))[i]? = some q → i < l.toNat ∧ q = zeroV (hz e) ez.cells.toList := fun i q hq => by
    rw [List.getElem?_replicate] at hq
    split at hq
    · rename_i hi; exact ⟨hi, (Option.some.inj hq).symm⟩
    · cases hq
  have hmul : c.toNat * einfo.size ≤ c.toNat * einfo.size := Nat.le_refl _
  obtain ⟨hR, hV⟩ := h.allocZ (es := List.replicate l.toNat (zeroV (hz e) ez.cells.toList)) (d := true) (bx := false) (n := einfo.size) (cap := c.toNat) (fun j => (hz e).getD j 0) (cs := madeCells ez.cells (c.toNat * einfo.size)) e (fun i q hq => by
      obtain ⟨_, rfl⟩ := hget i q hq
      rw [zeroV_length, hz1]) (by rw [List.length_replicate]; omega) (size_madeCells _ _) (fun i j q u hq hu => by
      obtain ⟨hi, rfl⟩ := hget i q hq
      have hj := (List.getElem?_eq_some_iff.1 hu).1
      rw [zeroV_length, hz1] at hj
      have hlt : i * einfo.size + j < c.toNat * einfo.size := by
        have : (i + 1) * einfo.size ≤ c.toNat * einfo.size := Nat.mul_le_mul_right _ (by omega)
        rw [Nat.add_mul, Nat.one_mul] at this
        omega
      have hx : ez.cells.toList[j]? = some (ez.cells.toList[j]'(by omega)) := List.getElem?_eq_getElem (by omega)
      obtain ⟨v', v1, v2⟩ := zeroV_get (hz e) _ j _ hx
      rw [v1] at hu
      obtain rfl := Option.some.inj hu
      refine ⟨ez.cells.toList[j]'(by omega), ?_, ?_⟩
      · rw [made_get hzs hj hlt, ← Array.getElem?_toList, hx]
      · rcases v2 with ⟨a1, a2⟩ | a2
        · exact .inr ⟨rfl, a2, a1⟩
        · rw [a2]; exact .inl ⟨trivial, .sc _⟩)
  refine ⟨_, _, _, _, hr, hR, ?_⟩
  refine .hdr s.nx [] l.toNat _ ?_ (.inr ⟨by simp [newGh, newNl], _, _, rfl, by omega, fun _ => by simp [newGh], fun _ => by simp [newGh, newCap]⟩)
  unfold St.len; rw [St.at_newOb, if_pos rfl]; simp [sub]
end
end Ev
namespace Ev
open Go Go.RowKit
set_option linter.unusedVariables false
set_option linter.unusedSimpArgs false

def inN (k : Nat) : List Nat → Bool
  | [] => false
  | i :: l => match Nat.beq k i with
    | true => true
    | false => inN k l

def killF (hit : Nat → Path → Bool) (v : V) : V :=
  match v with
  | .sc x => .sc x
  | .sl n es => kill hit (.sl n es)
  | .sh n es => .sh n es
  | .shp cs => .shp cs
  | .own d n es => kill hit (.own d n es)
  | .hdr r p => match hit r p with
    | true => .dead
    | false => .hdr r p
  | .part r p o len => kill hit (.part r p o len)
  | .ptr r p i j => kill hit (.ptr r p i j)
  | .fn f caps => kill hit (.fn f caps)
  | .agg vs => kill hit (.agg vs)
  | .tup vs => kill hit (.tup vs)
  | .obx vs => kill hit (.obx vs)
  | .bxr vs => kill hit (.bxr vs)
  | .dead => .dead
theorem killF_eq (hit : Nat → Path → Bool) : killF hit = kill hit := by
  funext v
  cases v <;> rfl
def movF (q r : Nat) (P : Path) (v : V) : V :=
  match v with
  | .sc x => .sc x
  | .sl n es => mov q r P (.sl n es)
  | .sh n es => .sh n es
  | .shp cs => .shp cs
  | .own d n es => mov q r P (.own d n es)
  | .hdr q' p => match Nat.beq q q' with
    | true => .hdr r (P ++ p)
    | false => .hdr q' p
  | .part a p o len => mov q r P (.part a p o len)
  | .ptr a p i j => mov q r P (.ptr a p i j)
  | .fn f caps => mov q r P (.fn f caps)
  | .agg vs => mov q r P (.agg vs)
  | .tup vs => mov q r P (.tup vs)
  | .obx vs => mov q r P (.obx vs)
  | .bxr vs => mov q r P (.bxr vs)
  | .dead => .dead
theorem movF_eq (q r : Nat) (P : Path) : movF q r P = mov q r P := by
  funext v
  cases v <;> rfl
def clearF (u : V) (r : Nat) (p : Path) (j : Nat) (kf : V → V) : V → V :=
  match u with
  | .own _ _ _ => fun x => killF (hitAt r p j) (kf x)
  | .sl _ _ => fun x => killF (hitAt r p j) (kf x)
  | _ => kf
theorem clearF_eq (u : V) (r : Nat) (p : Path) (j : Nat) (kf : V → V) : clearF u r p j kf = fun x => clearV u r p j (kf x) := by
  cases u <;> simp only [clearF, clearV, killF_eq]
def rowE (s : St) (bx d : Bool) (r : Nat) (p : Path) (i : Nat) : List V → Nat → List Nat → List V → (V → V) → List Nat → Nat → Option (List V × (V → V) × List Nat × Nat)
  | [], _, _, e, kf, dr, c => some (e, kf, dr, c)
  | v :: vs, j, hs, e, kf, dr, c => match e[j]? with
    | some u => match kf v with
      | .hdr q [] => match Nat.beq q r with
        | false => match inN q dr with
          | false => match Nat.ble s.ng q with
            | true => match s.obj q with
              | some oq => match formOf bx p d oq with
                | some X => rowE s bx d r p i vs (j + 1) hs.tail (e.set j X) (fun x => movF q r (p ++ [(i, j)]) (clearF u r p j kf x)) (q :: dr) c
                | none => none
              | none => none
            | false => none
          | true => none
        | true => none
      | .sc (.slice none 0 0) => match d with
        | true => match formOf bx p true ⟨[], true, hs.headD 0, false⟩ with
          | some X => rowE s bx d r p i vs (j + 1) hs.tail (e.set j X) (fun x => movF c r (p ++ [(i, j)]) (clearF u r p j kf x)) dr (c + 1)
          | none => none
        | false => rowE s bx d r p i vs (j + 1) hs.tail (e.set j (.sl (hs.headD 0) [])) (clearF u r p j kf) dr c
      | w => match plainOf (isBox bx p) d w with
        | some v' => rowE s bx d r p i vs (j + 1) hs.tail (e.set j v') (clearF u r p j kf) dr c
        | none => none
    | none => none

def dropAll : List Nat → List (Nat × Option Ob) → List (Nat × Option Ob)
  | [], l => l
  | q :: dr, l => (q, none) :: dropAll dr l
/-- The state behind it. -/
def rowSt (s : St) (r : Nat) (p : Path) (i : Nat) (e : List V) (kf : V → V) (dr : List Nat) (c : Nat) : St :=
  (⟨s.tm.map fun x => (x.1, kf x.2), dropAll dr s.ob, c, s.fz, s.ng⟩ : St).putOb r p fun es => es.set i e

theorem putAt_comp (f g : List (List V) → List (List V)) : ∀ (p : Path) (es : List (List V)), putAt f (putAt g es p) p = putAt (fun x => f (g x)) es p
  | [], es => rfl
  | (i, j) :: p, es => by
    cases he : es[i]? with
    | none => simp only [putAt, he]
    | some c =>
      have hi := (List.getElem?_eq_some_iff.1 he).1
      cases hc : c[j]? with
      | none => simp only [putAt, he, hc]
      | some v =>
        have hj := (List.getElem?_eq_some_iff.1 hc).1
        cases v with
        | own d n e => simp only [putAt, he, hc, List.getElem?_set_self hi, List.getElem?_set_self hj, putAt_comp f g p e, List.set_set]
        | sl n e => simp only [putAt, he, hc, List.getElem?_set_self hi, List.getElem?_set_self hj, putAt_comp f g p e, List.set_set]
        | _ => simp only [putAt, he, hc]
theorem putAt_congr {f g : List (List V) → List (List V)} : ∀ {p : Path} {d : Bool} {n : Nat} {es ep : List (List V)} {dp : Bool} {np : Nat}, sub d n es p = some (ep, dp, np) → f ep = g ep → putAt f es p = putAt g es p
  | [], d, n, es, ep, dp, np, h, hf => by
    simp only [sub, Option.some.injEq, Prod.mk.injEq] at h
    obtain ⟨rfl, _, _⟩ := h
    exact hf
  | (i, j) :: p, d, n, es, ep, dp, np, h, hf => by
    unfold sub at h
    unfold putAt
    split at h
    case h_2 => cases h
    rename_i _ c hc
    split at h
    · rw [putAt_congr h hf]
    · rename_i hv
      split at h
      case h_2 => cases h
      rw [putAt_congr h hf]
    · cases h
theorem putAt_id : ∀ (p : Path) (es : List (List V)), putAt (fun x => x) es p = es
  | [], es => rfl
  | (i, j) :: p, es => by
    unfold putAt
    split
    · rename_i c hc
      obtain ⟨hi, hc'⟩ := List.getElem?_eq_some_iff.1 hc
      split
      · rename_i d n e hv
        obtain ⟨hj, hv'⟩ := List.getElem?_eq_some_iff.1 hv
        rw [putAt_id p e, ← hv', List.set_getElem_self, ← hc', List.set_getElem_self]
      · rename_i n e hv
        obtain ⟨hj, hv'⟩ := List.getElem?_eq_some_iff.1 hv
        rw [putAt_id p e, ← hv', List.set_getElem_self, ← hc', List.set_getElem_self]
      · rfl
    · rfl

structure RowSim (s t : St) (r : Nat) (p : Path) (o : Ob) (es0 : List (List V)) (i : Nat) (e : List V) (kf : V → V) (dr : List Nat) (c : Nat) : Prop where
  nx : t.nx = c
  fz : t.fz = s.fz ∧ t.ng = s.ng
  tm : ∀ x, t.get x = kf (s.get x)
  obr : ∃ F, t.obj r = some { o with es := putAt F o.es p } ∧ F es0 = es0.set i e
  obs : ∀ q, q ≠ r → t.obj q = if inN q dr = true then none else s.obj q

theorem setAt_set {es0 : List (List V)} {i j : Nat} {e : List V} {v : V} (hi : i < es0.length) : setAt i j v (es0.set i e) = es0.set i (e.set j v) := by
  unfold setAt
  rw [List.getElem?_set_self hi]
  dsimp only
  rw [List.set_set]

theorem inN_eq {q k : Nat} {l : List Nat} : inN q (k :: l) = (if q = k then true else inN q l) := by
  show (match Nat.beq q k with | true => true | false => inN q l) = _
  by_cases h : q = k
  · subst h; rw [Nat.beq_refl, if_pos rfl]
  · rw [if_neg h]
    have : Nat.beq q k = false := by
      cases e : Nat.beq q k with
      | false => rfl
      | true => exact absurd (Nat.eq_of_beq_eq_true e) h
    rw [this]

/-- One cell more. -/
theorem RowSim.set {s t : St} {r : Nat} {p : Path} {o : Ob} {es0 : List (List V)} {i : Nat} {e : List V} {kf : V → V} {dr : List Nat} {c : Nat} (h : RowSim s t r p o es0 i e kf dr c) (hi : i < es0.length) {t' : St} {j : Nat} {v u : V} {kf' : V → V} {dr' : List Nat} {c' : Nat} (hn : t'.nx = c') (hf : t'.fz = t.fz ∧ t'.ng = t.ng) (ht : ∀ x, t'.get x = kf' (s.get x))
    (hr : ∀ o', t.obj r = some o' → t'.obj r = some { o' with es := putAt (setAt i j v) o'.es p } ∨ t'.obj r = some { o' with es := putAt (setAt i j v) (putAt (setAt i j u) o'.es p) p }) (ho : ∀ q, q ≠ r → t'.obj q = if inN q dr' = true then none else s.obj q) : RowSim s t' r p o es0 i (e.set j v) kf' dr' c' := by
  obtain ⟨F, h1, h2⟩ := h.obr
  refine ⟨hn, ⟨hf.1.trans h.fz.1, hf.2.trans h.fz.2⟩, ht, ?_, ho⟩
  rcases hr _ h1 with e1 | e1
  · refine ⟨fun x => setAt i j v (F x), by rw [e1]; dsimp only; rw [putAt_comp], ?_⟩
    dsimp only; rw [h2, setAt_set hi]
  · refine ⟨fun x => setAt i j v (setAt i j u (F x)), by rw [e1]; dsimp only; rw [putAt_comp, putAt_comp], ?_⟩
    dsimp only; rw [h2, setAt_set hi, setAt_set hi, List.set_set]

theorem putOb_obj {s : St} {r : Nat} {p : Path} {f : List (List V) → List (List V)} {o : Ob} (h : s.obj r = some o) : (s.putOb r p f).obj r = some { o with es := putAt f o.es p } := by
  unfold St.putOb
  rw [h]
  show look none ((r, _) :: s.ob) r = _
  rw [look_cons, if_pos rfl]
theorem putOb_obj_ne {s : St} {r q : Nat} {p : Path} {f : List (List V) → List (List V)} (h : q ≠ r) : (s.putOb r p f).obj q = s.obj q := by
  unfold St.putOb
  split
  · show look none ((r, _) :: s.ob) q = _
    rw [look_cons, if_neg (Ne.symm h)]; rfl
  · rfl
theorem putOb_get {s : St} {r : Nat} {p : Path} {f : List (List V) → List (List V)} (t : Nat) : (s.putOb r p f).get t = s.get t := by
  unfold St.get; rw [(s.putOb_tm r p f).1]

theorem rowE_ok {s : St} {r : Nat} {p : Path} {o : Ob} {es0 : List (List V)} {d : Bool} {n : Nat} {i : Nat} (ho : s.obj r = some o) (hat : s.at r p = some (es0, d, n)) (hi : i < es0.length) (hfr : ∀ q, s.nx ≤ q → s.obj q = none) : ∀ (vs : List V) (j : Nat) (hs : List Nat) (e : List V) (kf : V → V) (dr : List Nat) (c : Nat) (t : St) (e' : List V) (kf' : V → V) (dr' : List Nat) (c' : Nat),
    rowE s o.bx d r p i vs j hs e kf dr c = some (e', kf', dr', c') → RowSim s t r p o es0 i e kf dr c → s.nx ≤ c → ∃ t' K, storeW t r p i j hs (vs.map kf) = some (t', K) ∧ RowSim s t' r p o es0 i e' kf' dr' c' ∧ s.nx ≤ c'
  | [], j, hs, e, kf, dr, c, t, e', kf', dr', c', he, h, hc => by
    simp only [rowE, Option.some.injEq, Prod.mk.injEq] at he
    obtain ⟨rfl, rfl, rfl, rfl⟩ := he
    exact ⟨t, fun v => v, by unfold storeW; rfl, h, hc⟩
  | v :: vs, j, hs, e, kf, dr, c, t, e', kf', dr', c', he, h, hc => by
    have hrn : r < s.nx := by
      rcases Nat.lt_or_ge r s.nx with h1 | h1
      · exact h1
      · rw [hfr r h1] at ho; cases ho
    obtain ⟨F, h1, h2⟩ := h.obr
    have hsub : sub o.deep o.sz o.es p = some (es0, d, n) := by unfold St.at at hat; rw [ho] at hat; exact hat
    have htat : t.at r p = some (es0.set i e, d, n) := by
      unfold St.at
      rw [h1]
      have := putAt_at F hsub []
      rw [List.append_nil, h2] at this
      exact this
    have hei : (es0.set i e)[i]? = some e := List.getElem?_set_self hi
    -- what a step gives
    have step : ∀ (t1 : St) (K1 : V → V) (w X u : V) (kf1 : V → V) (dr1 : List Nat) (c1 : Nat), kf v = w → putCell t r p i j (hs.headD 0) w = some (t1, K1) → kf1 = (fun x => K1 (kf x)) → RowSim s t1 r p o es0 i (e.set j X) kf1 dr1 c1 → s.nx ≤ c1 → rowE s o.bx d r p i vs (j + 1) hs.tail (e.set j X) kf1 dr1 c1 = some (e', kf', dr', c') → ∃ t' K, storeW t r p i j hs ((v :: vs).map kf) = some (t', K) ∧ RowSim s t' r p o es0 i e' kf' dr' c' ∧ s.nx ≤ c' := fun t1 K1 w X u kf1 dr1 c1 hw hp hk hsim hc1 hrow => by
      obtain ⟨t', K, g1, g2, g3⟩ := rowE_ok ho hat hi hfr vs (j + 1) hs.tail (e.set j X) kf1 dr1 c1 t1 e' kf' dr' c' hrow hsim hc1
      refine ⟨t', fun x => K (K1 x), ?_, g2, g3⟩
      rw [List.map_cons]
      unfold storeW
      rw [hw, hp]
      dsimp only
      rw [List.map_map]
      rw [hk] at g1
      rw [show (K1 ∘ kf) = fun x => K1 (kf x) from rfl, g1]
    unfold rowE at he
    simp only [clearF_eq, killF_eq, movF_eq] at he
    split at he
    case h_2 => cases he
    rename_i _ u hu
    split at he
    · rename_i _ q hq
      split at he
      case h_2 => cases he
      rename_i hqr
      have hqr' : q ≠ r := fun e => by rw [e, Nat.beq_refl] at hqr; cases hqr
      split at he
      case h_2 => cases he
      rename_i hdr
      split at he
      case h_2 => cases he
      rename_i hqng
      split at he
      case h_2 => cases he
      rename_i _ oq hoq
      split at he
      case h_2 => cases he
      rename_i _ X hX
      have htq : t.obj q = some oq := by rw [h.obs q hqr', if_neg (by rw [hdr]; simp)]; exact hoq
      refine step (moveOb ((t.clear u r p j).putOb r p (setAt i j .dead)) r p i j q X) (fun x => mov q r (p ++ [(i, j)]) (clearV u r p j x)) (.hdr q []) X u _ (q :: dr) c hq (by
        unfold putCell
        simp only [h1, htat, hei, hu, hqr, h.fz.2, hqng, htq, hX]) rfl ?_ hc he
      have hobc : (t.clear u r p j).obj r = some { o with es := putAt F o.es p } := by unfold St.obj; rw [(t.clear_ob u r p j).1]; exact h1
      refine h.set (u := .dead) hi ?_ ?_ (fun x => ?_) (fun o' ho' => .inr ?_) (fun q' hq' => ?_)
      · unfold moveOb; rw [(St.putOb_tm _ r p _).2.1]
        show ((t.clear u r p j).putOb r p (setAt i j .dead)).nx = c
        rw [(St.putOb_tm _ r p _).2.1, (t.clear_ob u r p j).2.1]; exact h.nx
      · unfold moveOb; rw [(St.putOb_tm _ r p _).2.2, St.putOb_ng]
        show ((t.clear u r p j).putOb r p (setAt i j .dead)).fz = t.fz ∧ ((t.clear u r p j).putOb r p (setAt i j .dead)).ng = t.ng
        rw [(St.putOb_tm _ r p _).2.2, (t.clear_ob u r p j).2.2, St.putOb_ng, St.clear_ng]; exact ⟨rfl, rfl⟩
      · unfold moveOb
        rw [putOb_get]
        show (((t.clear u r p j).putOb r p (setAt i j .dead)).movT q r (p ++ [(i, j)])).get x = _
        rw [St.get_movT, putOb_get, St.clear_get, h.tm]
      · rw [h1] at ho'
        obtain rfl := Option.some.inj ho'
        unfold moveOb
        have : ((((t.clear u r p j).putOb r p (setAt i j .dead)).movT q r (p ++ [(i, j)])).dropOb q).obj r = some { o with es := putAt (setAt i j .dead) (putAt F o.es p) p } := by
          show look none ((q, none) :: ((t.clear u r p j).putOb r p (setAt i j .dead)).ob) r = _
          rw [look_cons, if_neg hqr']
          exact putOb_obj hobc
        rw [putOb_obj this]
      · unfold moveOb
        rw [putOb_obj_ne hq']
        show look none ((q, none) :: ((t.clear u r p j).putOb r p (setAt i j .dead)).ob) q' = _
        rw [look_cons, inN_eq]
        by_cases e : q = q'
        · subst e; rw [if_pos rfl, if_pos rfl, if_pos rfl]
        · rw [if_neg e, if_neg (Ne.symm e)]
          have : look none ((t.clear u r p j).putOb r p (setAt i j .dead)).ob q' = t.obj q' := by
            have := putOb_obj_ne (s := t.clear u r p j) (p := p) (f := setAt i j .dead) hq'
            unfold St.obj at this
            rw [this, (t.clear_ob u r p j).1]; rfl
          rw [this, h.obs q' hq']
    · rename_i hz
      have hcell : ∀ (X : V), RowSim s ((t.clear u r p j).putOb r p (setAt i j X)) r p o es0 i (e.set j X) (fun x => clearV u r p j (kf x)) dr c := fun X => by
        have hobc : (t.clear u r p j).obj r = some { o with es := putAt F o.es p } := by unfold St.obj; rw [(t.clear_ob u r p j).1]; exact h1
        refine h.set (u := .dead) hi ?_ ?_ (fun x => ?_) (fun o' ho' => .inl ?_) (fun q' hq' => ?_)
        · rw [(St.putOb_tm _ r p _).2.1, (t.clear_ob u r p j).2.1]; exact h.nx
        · rw [(St.putOb_tm _ r p _).2.2, (t.clear_ob u r p j).2.2, St.putOb_ng, St.clear_ng]; exact ⟨rfl, rfl⟩
        · rw [putOb_get, St.clear_get, h.tm]
        · rw [h1] at ho'
          obtain rfl := Option.some.inj ho'
          exact putOb_obj hobc
        · rw [putOb_obj_ne hq']
          have : (t.clear u r p j).obj q' = t.obj q' := by unfold St.obj; rw [(t.clear_ob u r p j).1]
          rw [this, h.obs q' hq']
      cases d with
      | true =>
        dsimp only at he
        split at he
        case h_2 => cases he
        rename_i _ X hX
        have hcr : c ≠ r := by omega
        have hobc : (t.clear u r p j).obj r = some { o with es := putAt F o.es p } := by unfold St.obj; rw [(t.clear_ob u r p j).1]; exact h1
        refine step (moveOb (((t.clear u r p j).putOb r p (setAt i j .dead)).newOb ⟨[], true, hs.headD 0, false⟩) r p i j c X) (fun x => mov c r (p ++ [(i, j)]) (clearV u r p j x)) (.sc (.slice none 0 0)) X u _ dr (c + 1) hz (by
          unfold putCell
          simp only [h1, htat, hei, hu, hX, h.nx]) rfl ?_ (by omega) he
        refine h.set (u := .dead) hi ?_ ?_ (fun x => ?_) (fun o' ho' => .inr ?_) (fun q' hq' => ?_)
        · unfold moveOb; rw [(St.putOb_tm _ r p _).2.1]
          show ((t.clear u r p j).putOb r p (setAt i j .dead)).nx + 1 = c + 1
          rw [(St.putOb_tm _ r p _).2.1, (t.clear_ob u r p j).2.1, h.nx]
        · unfold moveOb; rw [(St.putOb_tm _ r p _).2.2, St.putOb_ng]
          show ((t.clear u r p j).putOb r p (setAt i j .dead)).fz = t.fz ∧ ((t.clear u r p j).putOb r p (setAt i j .dead)).ng = t.ng
          rw [(St.putOb_tm _ r p _).2.2, (t.clear_ob u r p j).2.2, St.putOb_ng, St.clear_ng]; exact ⟨rfl, rfl⟩
        · unfold moveOb
          rw [putOb_get]
          show ((((t.clear u r p j).putOb r p (setAt i j .dead)).newOb ⟨[], true, hs.headD 0, false⟩).movT c r (p ++ [(i, j)])).get x = _
          rw [St.get_movT]
          show mov c r (p ++ [(i, j)]) (((t.clear u r p j).putOb r p (setAt i j .dead)).get x) = _
          rw [putOb_get, St.clear_get, h.tm]
        · rw [h1] at ho'
          obtain rfl := Option.some.inj ho'
          unfold moveOb
          have hcn : ((t.clear u r p j).putOb r p (setAt i j .dead)).nx = c := by rw [(St.putOb_tm _ r p _).2.1, (t.clear_ob u r p j).2.1, h.nx]
          have : (((((t.clear u r p j).putOb r p (setAt i j .dead)).newOb ⟨[], true, hs.headD 0, false⟩).movT c r (p ++ [(i, j)])).dropOb c).obj r = some { o with es := putAt (setAt i j .dead) (putAt F o.es p) p } := by
            show look none ((c, none) :: (((t.clear u r p j).putOb r p (setAt i j .dead)).nx, some _) :: ((t.clear u r p j).putOb r p (setAt i j .dead)).ob) r = _
            rw [look_cons, if_neg hcr, look_cons, hcn, if_neg hcr]
            exact putOb_obj hobc
          rw [putOb_obj this]
        · unfold moveOb
          rw [putOb_obj_ne hq']
          have hcn : ((t.clear u r p j).putOb r p (setAt i j .dead)).nx = c := by rw [(St.putOb_tm _ r p _).2.1, (t.clear_ob u r p j).2.1, h.nx]
          show look none ((c, none) :: (((t.clear u r p j).putOb r p (setAt i j .dead)).nx, some _) :: ((t.clear u r p j).putOb r p (setAt i j .dead)).ob) q' = _
          rw [look_cons, look_cons, hcn]
          by_cases e : c = q'
          · rw [if_pos e]
            subst e
            rw [hfr c hc]
            split <;> rfl
          · rw [if_neg e, if_neg e]
            have : look none ((t.clear u r p j).putOb r p (setAt i j .dead)).ob q' = t.obj q' := by
              have := putOb_obj_ne (s := t.clear u r p j) (p := p) (f := setAt i j .dead) hq'
              unfold St.obj at this
              rw [this, (t.clear_ob u r p j).1]; rfl
            rw [this, h.obs q' hq']
      | false =>
        dsimp only at he
        exact step _ _ (.sc (.slice none 0 0)) _ u _ dr c hz (by
          unfold putCell
          simp only [h1, htat, hei, hu]) rfl (hcell _) hc he
    · rename_i hno1 hno2
      split at he
      case h_2 => cases he
      rename_i _ v' hv'
      have hcell : ∀ (X : V), RowSim s ((t.clear u r p j).putOb r p (setAt i j X)) r p o es0 i (e.set j X) (fun x => clearV u r p j (kf x)) dr c := fun X => by
        have hobc : (t.clear u r p j).obj r = some { o with es := putAt F o.es p } := by unfold St.obj; rw [(t.clear_ob u r p j).1]; exact h1
        refine h.set (u := .dead) hi ?_ ?_ (fun x => ?_) (fun o' ho' => .inl ?_) (fun q' hq' => ?_)
        · rw [(St.putOb_tm _ r p _).2.1, (t.clear_ob u r p j).2.1]; exact h.nx
        · rw [(St.putOb_tm _ r p _).2.2, (t.clear_ob u r p j).2.2, St.putOb_ng, St.clear_ng]; exact ⟨rfl, rfl⟩
        · rw [putOb_get, St.clear_get, h.tm]
        · rw [h1] at ho'
          obtain rfl := Option.some.inj ho'
          exact putOb_obj hobc
        · rw [putOb_obj_ne hq']
          have : (t.clear u r p j).obj q' = t.obj q' := by unfold St.obj; rw [(t.clear_ob u r p j).1]
          rw [this, h.obs q' hq']
      refine step ((t.clear u r p j).putOb r p (setAt i j v')) (clearV u r p j) (kf v) v' u _ dr c rfl ?_ rfl (hcell _) hc he
      unfold putCell
      simp only [h1, htat, hei, hu]
      rw [hv']

/-- The same told of other words for it. -/
theorem R.ext {β : Base} {s s' : St} {a : Act} {w : World} {g : Gh} {pm : Nat → Nat → Option (Nat × Path)} (h : R β s a w g pm) (ht : ∀ t, s'.get t = s.get t) (ho : ∀ r, s'.obj r = s.obj r) (hn : s'.nx = s.nx) (hf : s'.fz = s.fz) (hg : s'.ng = s.ng) : R β s' a w g pm := by
  have hat : ∀ r p, s'.at r p = s.at r p := fun r p => by unfold St.at; rw [ho]
  have hlen : s'.len = s.len := by funext r p; unfold St.len; rw [hat]
  exact {
    defers := h.defers, fsz := by rw [hf]; exact h.fsz
    tm := fun t => by rw [hlen, ht]; exact h.tm t
    blk := fun r p es d n hh => by rw [hat] at hh; exact h.blk r p es d n hh
    fresh := fun r hr => by rw [ho]; exact h.fresh r (by rw [← hn]; exact hr)
    own := h.own, keep := h.keep, low := h.low
    ngnx := by rw [hg, hn]; exact h.ngnx
    top := fun k hk => by
      rw [hg] at hk
      unfold St.shape; rw [ho]; exact h.top k hk }

theorem look_dropAll (q : Nat) : ∀ (dr : List Nat) (l : List (Nat × Option Ob)), look none (dropAll dr l) q = if inN q dr = true then none else look none l q
  | [], l => rfl
  | k :: dr, l => by
    show look none ((k, none) :: dropAll dr l) q = _
    rw [look_cons, look_dropAll q dr l, inN_eq]
    by_cases h : k = q
    · rw [if_pos h, if_pos h.symm, if_pos rfl]
    · rw [if_neg h, if_neg (Ne.symm h)]

theorem clearV_dead (u : V) (r : Nat) (p : Path) (j : Nat) : clearV u r p j .dead = .dead := by cases u <;> rfl
theorem rowE_inv {s : St} {bx d : Bool} {r : Nat} {p : Path} {i : Nat} : ∀ {vs : List V} {j : Nat} {hs : List Nat} {e : List V} {kf : V → V} {dr : List Nat} {c : Nat} {e' : List V} {kf' : V → V} {dr' : List Nat} {c' : Nat},
    rowE s bx d r p i vs j hs e kf dr c = some (e', kf', dr', c') → kf .dead = .dead → inN r dr = false → kf' .dead = .dead ∧ inN r dr' = false
  | [], j, hs, e, kf, dr, c, e', kf', dr', c', he, h1, h2 => by
    simp only [rowE, Option.some.injEq, Prod.mk.injEq] at he
    obtain ⟨rfl, rfl, rfl, rfl⟩ := he
    exact ⟨h1, h2⟩
  | v :: vs, j, hs, e, kf, dr, c, e', kf', dr', c', he, h1, h2 => by
    unfold rowE at he
    simp only [clearF_eq, killF_eq, movF_eq] at he
    split at he
    case h_2 => cases he
    rename_i _ u _
    have hk : clearV u r p j (kf .dead) = .dead := by rw [h1]; exact clearV_dead u r p j
    split at he
    · rename_i _ q _
      split at he
      case h_2 => cases he
      rename_i hqr
      split at he
      case h_2 => cases he
      split at he
      case h_2 => cases he
      split at he
      case h_2 => cases he
      split at he
      case h_2 => cases he
      exact rowE_inv he (by show mov _ _ _ (clearV u r p j (kf .dead)) = _; rw [hk]; rfl) (by rw [inN_eq, if_neg (fun e => by rw [e, Nat.beq_refl] at hqr; cases hqr)]; exact h2)
    · cases d with
      | true =>
        dsimp only at he
        split at he
        case h_2 => cases he
        exact rowE_inv he (by show mov _ _ _ (clearV u r p j (kf .dead)) = _; rw [hk]; rfl) h2
      | false => exact rowE_inv he hk h2
    · split at he
      case h_2 => cases he
      exact rowE_inv he hk h2

/-- A row goes into the place that was told. -/
theorem row_ok {s : St} (hfr : ∀ q, s.nx ≤ q → s.obj q = none) {r : Nat} {p : Path} {o : Ob} {es0 : List (List V)} {d : Bool} {n i j : Nat} {e : List V} {vs : List V} {hs : List Nat} (ho : s.obj r = some o) (hat : s.at r p = some (es0, d, n)) (hei : es0[i]? = some e) {e' : List V} {kf : V → V} {dr : List Nat} {c : Nat}
    (hr : rowE s o.bx d r p i vs j hs e (fun v => v) [] s.nx = some (e', kf, dr, c)) : ∃ s' K, storeL s r p i j hs vs = some (s', K) ∧ (∀ t, (rowSt s r p i e' kf dr c).get t = s'.get t) ∧ (∀ q, (rowSt s r p i e' kf dr c).obj q = s'.obj q) ∧ (rowSt s r p i e' kf dr c).nx = s'.nx ∧ (rowSt s r p i e' kf dr c).fz = s'.fz ∧ (rowSt s r p i e' kf dr c).ng = s'.ng := by
  obtain ⟨hi, hei'⟩ := List.getElem?_eq_some_iff.1 hei
  have hset : es0.set i e = es0 := by rw [← hei', List.set_getElem_self]
  have hsub : sub o.deep o.sz o.es p = some (es0, d, n) := by unfold St.at at hat; rw [ho] at hat; exact hat
  obtain ⟨t', K, h1, h2, h3⟩ := rowE_ok ho hat hi hfr vs j hs e (fun v => v) [] s.nx s e' kf dr c hr ⟨rfl, ⟨rfl, rfl⟩, fun _ => rfl, ⟨fun x => x, by rw [putAt_id]; exact ho, hset.symm⟩, fun q _ => rfl⟩ (Nat.le_refl _)
  rw [show vs.map (fun v => v) = vs from List.map_id vs, ← storeL_eq] at h1
  obtain ⟨F, f1, f2⟩ := h2.obr
  obtain ⟨hkf, hnr⟩ := rowE_inv hr rfl rfl
  have hor : (⟨s.tm.map fun x => (x.1, kf x.2), dropAll dr s.ob, c, s.fz, s.ng⟩ : St).obj r = some o := by
    show look none (dropAll dr s.ob) r = some o
    rw [look_dropAll, hnr, if_neg (by simp)]; exact ho
  refine ⟨t', K, h1, fun t => ?_, fun q => ?_, ?_, ?_, ?_⟩
  · unfold rowSt
    rw [putOb_get, h2.tm]
    show look .dead (s.tm.map fun x => (x.1, kf x.2)) t = _
    rw [look_map V.dead V.dead kf hkf]; rfl
  · unfold rowSt
    by_cases hq : q = r
    · subst hq
      rw [putOb_obj hor, f1, putAt_congr hsub f2.symm]
    · rw [putOb_obj_ne hq, h2.obs q hq]
      show look none (dropAll dr s.ob) q = _
      rw [look_dropAll]; rfl
  · unfold rowSt; rw [(St.putOb_tm _ r p _).2.1, h2.nx]
  · unfold rowSt; rw [(St.putOb_tm _ r p _).2.2, h2.fz.1]
  · unfold rowSt; rw [St.putOb_ng, h2.fz.2]

-- what is known, told in full: so that what reads it need not go back
def forceH {α : Type} (v : V) (K : V → α) : α :=
  match v with
  | .sc x => K (.sc x)
  | .sl n es => K (.sl n es)
  | .sh n es => K (.sh n es)
  | .shp cs => K (.shp cs)
  | .own d n es => K (.own d n es)
  | .hdr r p => K (.hdr r p)
  | .part r p o len => K (.part r p o len)
  | .ptr r p i j => K (.ptr r p i j)
  | .fn f caps => K (.fn f caps)
  | .agg vs => K (.agg vs)
  | .tup vs => K (.tup vs)
  | .obx vs => K (.obx vs)
  | .bxr vs => K (.bxr vs)
  | .dead => K .dead
theorem forceH_eq {α : Type} (v : V) (K : V → α) : forceH v K = K v := by cases v <;> rfl
def forceVs {α : Type} : List V → (List V → α) → α
  | [], K => K []
  | v :: vs, K => forceH v fun v' => forceVs vs fun vs' => K (v' :: vs')
theorem forceVs_eq {α : Type} : ∀ (vs : List V) (K : List V → α), forceVs vs K = K vs
  | [], K => rfl
  | v :: vs, K => by unfold forceVs; rw [forceH_eq, forceVs_eq vs]
def forceV {α : Type} (v : V) (K : V → α) : α :=
  match v with
  | .agg vs => forceVs vs fun vs' => K (.agg vs')
  | .tup vs => forceVs vs fun vs' => K (.tup vs')
  | .fn f cs => forceVs cs fun cs' => K (.fn f cs')
  | .bxr cs => forceVs cs fun cs' => K (.bxr cs')
  | v => forceH v K
theorem forceV_eq {α : Type} (v : V) (K : V → α) : forceV v K = K v := by
  cases v with
  | agg vs => exact forceVs_eq vs _
  | tup vs => exact forceVs_eq vs _
  | fn f cs => exact forceVs_eq cs _
  | bxr cs => exact forceVs_eq cs _
  | _ => rfl
def forceL {α : Type} : List V → (List V → α) → α
  | [], K => K []
  | v :: vs, K => forceV v fun v' => forceL vs fun vs' => K (v' :: vs')
theorem forceL_eq {α : Type} : ∀ (vs : List V) (K : List V → α), forceL vs K = K vs
  | [], K => rfl
  | v :: vs, K => by unfold forceL; rw [forceV_eq, forceL_eq vs]
def forceT {α : Type} : List (Nat × V) → (List (Nat × V) → α) → α
  | [], K => K []
  | x :: l, K => match x with
    | (t, v) => forceV v fun v' => forceT l fun l' => K ((t, v') :: l')
theorem forceT_eq {α : Type} : ∀ (l : List (Nat × V)) (K : List (Nat × V) → α), forceT l K = K l
  | [], K => rfl
  | (t, v) :: l, K => by unfold forceT; dsimp only; rw [forceV_eq, forceT_eq l]
def forceR {α : Type} : List (List V) → (List (List V) → α) → α
  | [], K => K []
  | e :: l, K => forceVs e fun e' => forceR l fun l' => K (e' :: l')
theorem forceR_eq {α : Type} : ∀ (l : List (List V)) (K : List (List V) → α), forceR l K = K l
  | [], K => rfl
  | e :: l, K => by unfold forceR; rw [forceVs_eq, forceR_eq l]
def forceO {α : Type} : List (Nat × Option Ob) → (List (Nat × Option Ob) → α) → α
  | [], K => K []
  | x :: l, K => match x with
    | (r, none) => forceO l fun l' => K ((r, none) :: l')
    | (r, some ⟨es, d, n, b⟩) => match b with
      | true => forceR es fun es' => forceO l fun l' => K ((r, some ⟨es', d, n, true⟩) :: l')
      | false => forceO l fun l' => K ((r, some ⟨es, d, n, false⟩) :: l')
theorem forceO_eq {α : Type} : ∀ (l : List (Nat × Option Ob)) (K : List (Nat × Option Ob) → α), forceO l K = K l
  | [], K => rfl
  | (r, none) :: l, K => by unfold forceO; dsimp only; rw [forceO_eq l]
  | (r, some ⟨es, d, n, true⟩) :: l, K => by unfold forceO; dsimp only; rw [forceR_eq, forceO_eq l]
  | (r, some ⟨es, d, n, false⟩) :: l, K => by unfold forceO; dsimp only; rw [forceO_eq l]
def forceC {α : Type} (n : Nat) (K : Nat → α) : List Nat → α
  | [] => K n
  | c :: l => match Nat.beq n c with
    | true => K c
    | false => forceC n K l
theorem forceC_eq {α : Type} (n : Nat) (K : Nat → α) : ∀ l, forceC n K l = K n
  | [] => rfl
  | c :: l => by
    unfold forceC
    split
    · rename_i h; rw [Nat.eq_of_beq_eq_true h]
    · exact forceC_eq n K l
/-- A number, told in figures. -/
def forceN {α : Type} (n : Nat) (K : Nat → α) : α := forceC n K [0, 1, 2, 3, 4, 5, 6, 7, 8, 9, 10, 11, 12, 13, 14, 15, 16, 17, 18, 19, 20, 21, 22, 23, 24, 25, 26, 27, 28, 29, 30]
theorem forceN_eq {α : Type} (n : Nat) (K : Nat → α) : forceN n K = K n := forceC_eq n K _
def forceSt {α : Type} (s : St) (K : St → α) : α :=
  match s with
  | ⟨tm, ob, nx, fz, ng⟩ => forceN nx fun nx' => forceN ng fun ng' => forceT tm fun tm' => forceO ob fun ob' => K ⟨tm', ob', nx', fz, ng'⟩
theorem forceSt_eq {α : Type} (s : St) (K : St → α) : forceSt s K = K s := by
  cases s; unfold forceSt; dsimp only; rw [forceN_eq, forceN_eq, forceT_eq, forceO_eq]
end Ev
namespace Ev
open Go Go.RowKit
set_option linter.unusedVariables false
set_option linter.unusedSimpArgs false
section
variable {β : Base} {s : St} {a : Act} {w : World} {g : Gh} {pm : Nat → Nat → Option (Nat × Path)} {C : Ctx}

/-- What may be read, one's own too. -/
def okL (β : Base) (pm : Nat → Nat → Option (Nat × Path)) : Nat → Nat → Prop := fun b o => okc β pm b o ∨ pm b o ≠ none
/-- What may be read, and what is a root's. -/
def okR (β : Base) (pm : Nat → Nat → Option (Nat × Path)) (r : Nat) : Nat → Nat → Prop := fun b o => okc β pm b o ∨ ∃ p, pm b o = some (r, p)
theorem okR_L {β : Base} {pm : Nat → Nat → Option (Nat × Path)} {r b o : Nat} (h : okR β pm r b o) : okL β pm b o := by
  rcases h with h | ⟨p, h⟩
  · exact .inl h
  · exact .inr (by rw [h]; simp)

theorem ownSR (h : R β s a w g pm) : ∀ (N : Nat) (v : V), sizeOf v < N → ∀ (r : Nat) (p : Path) (es : List (List V)) (d : Bool) (n i j : Nat) (e : List V) (c : Value), s.at r p = some (es, d, n) → es[i]? = some e → e[j]? = some v → CR w (okc β pm) g r p d i j v c → SR w (okR β pm r) v c
  | 0, v, hN, _, _, _, _, _, _, _, _, _, _, _, _, _ => by omega
  | N + 1, v, hN, r, p, es, d, n, i, j, e, c, hat, he, hv, hc => by
    have up : ∀ {v : V} {c : Value}, SR w (okc β pm) v c → SR w (okR β pm r) v c := fun hh => hh.mono (fun _ _ _ h1 h2 => ⟨.inl h1, h2⟩)
    have child : ∀ (es' : List (List V)) (d' : Bool) (n' : Nat), sizeOf es' < N → s.at r (p ++ [(i, j)]) = some (es', d', n') → RefHdr g r (p ++ [(i, j)]) 0 es'.length c → SR w (okR β pm r) (.sl n' es') c := fun es' d' n' hsz hat' hr => by
      rcases hr with ⟨h1, rfl, h0⟩ | ⟨h1, A, cap', rfl, hcap, h2, h3⟩
      · rw [List.eq_nil_of_length_eq_zero h0]; exact .nil n' none 0
      · have hb := h.blk r (p ++ [(i, j)]) es' d' n' hat'
        obtain ⟨rfl, rfl⟩ := h3 rfl
        refine .sl n' es' _ _ _ (fun i' j' => (w.cell? ⟨g.blk r (p ++ [(i, j)]), g.off r (p ++ [(i, j)]) + i' * n' + j', none⟩).getD undef) (fun i' e' he' => by rw [hb.row i' e' he', hb.siz]) (fun i' j' e' v' he' hv' => ?_) (fun i' j' e' v' he' hv' => ?_) hcap
        · obtain ⟨_, _, _, hm⟩ := h.place hat' he' hv'
          obtain ⟨c', c1, _⟩ := hb.cell i' j' e' v' he' hv'
          rw [hb.siz] at hm c1
          exact ⟨.inr ⟨_, hm.1⟩, by rw [c1]; rfl⟩
        · obtain ⟨c', c1, c2⟩ := hb.cell i' j' e' v' he' hv'
          rw [hb.siz] at c1
          rw [c1]
          refine ownSR h N v' ?_ r (p ++ [(i, j)]) es' d' n' i' j' e' c' hat' he' hv' c2
          have s1 := List.sizeOf_lt_of_mem (List.mem_of_getElem? he')
          have s2 := List.sizeOf_lt_of_mem (List.mem_of_getElem? hv')
          omega
    cases v with
    | sc x => obtain rfl := VR.sc_inv (show VR w _ noGh noAt _ _ from hc); exact .sc _
    | sl n' es' =>
      cases d with
      | true => exact child es' true n' (by simp at hN; omega) (by rw [St.at_snoc hat]; simp [sub, he, hv]) hc
      | false => exact up hc
    | own d' n' es' => exact .own _ _ _ _ (child es' d' n' (by simp at hN; omega) (by rw [St.at_snoc hat]; simp [sub, he, hv]) hc)
    | sh n' es' =>
      cases (show VR w _ noGh noAt _ _ from hc) with
      | sh _ _ _ hh => exact .sh _ _ _ (up hh)
    | _ => exact .any _ _ rfl

/-- A place's content, read. -/
theorem placeSR (h : R β s a w g pm) {r : Nat} {p : Path} {es : List (List V)} {d : Bool} {n : Nat} (hat : s.at r p = some (es, d, n)) {i j : Nat} {e : List V} {v : V} (he : es[i]? = some e) (hv : e[j]? = some v) :
    ∃ c, w.cell? ⟨g.blk r p, g.off r p + i * g.sz r p + j, none⟩ = some c ∧ okR β pm r (g.blk r p) (g.off r p + i * g.sz r p + j) ∧ SR w (okR β pm r) v c := by
  obtain ⟨c, c1, c2⟩ := (h.blk r p es d n hat).cell i j e v he hv
  obtain ⟨_, _, _, hm⟩ := h.place hat he hv
  exact ⟨c, c1, .inr ⟨_, hm.1⟩, ownSR h _ v (Nat.lt_succ_self _) r p es d n i j e c hat he hv c2⟩
theorem hdrSR (h : R β s a w g pm) {r : Nat} {p : Path} {es : List (List V)} {d : Bool} {n : Nat} (hat : s.at r p = some (es, d, n)) {c : Value} (hr : RefHdr g r p 0 es.length c) : SR w (okR β pm r) (.sl n es) c := by
  rcases hr with ⟨h1, rfl, h0⟩ | ⟨h1, A, cap', rfl, hcap, h2, h3⟩
  · rw [List.eq_nil_of_length_eq_zero h0]; exact .nil n none 0
  · have hb := h.blk r p es d n hat
    obtain ⟨rfl, rfl⟩ := h3 rfl
    refine .sl n es _ _ _ (fun i' j' => (w.cell? ⟨g.blk r p, g.off r p + i' * n + j', none⟩).getD undef) (fun i' e' he' => by rw [hb.row i' e' he', hb.siz]) (fun i' j' e' v' he' hv' => ?_) (fun i' j' e' v' he' hv' => ?_) hcap
    · obtain ⟨c', c1, c2, _⟩ := placeSR h hat he' hv'
      rw [hb.siz] at c1 c2
      exact ⟨c2, by rw [c1]; rfl⟩
    · obtain ⟨c', c1, c2, c3⟩ := placeSR h hat he' hv'
      rw [hb.siz] at c1
      rw [c1]; exact c3

def treeV : V → V
  | .own _ n es => .sl n es
  | .sh n es => .sl n es
  | v => v
theorem treeV_ok {ok : Nat → Nat → Prop} {v : V} {c : Value} (h : SR w ok v c) : SR w ok (treeV v) c := by
  cases h with
  | own d n es c h => exact h
  | sh n es c h => exact h
  | sc x => exact .sc _
  | nil n A cap => exact .nil n A cap
  | sl s es b o cap vals hs h1 h2 hc => exact .sl s es b o cap vals hs h1 h2 hc
  | any v c h => cases v <;> first | exact .any _ _ h | cases h

def lend1 (s : St) : V → Option V
  | .sc x => some (.sc x)
  | .sh n es => some (.sh n es)
  | .shp cs => some (.shp cs)
  | .fn f [] => some (.fn f [])
  | .hdr r p => match s.at r p with
    | some (es, _, n) => some (.sh n es)
    | none => none
  | .part r p o len => match s.at r p with
    | some (es, _, n) => some (.sh n ((es.drop o).take len))
    | none => none
  | .ptr r p i j => match s.at r p with
    | some (es, _, _) => match es[i]? with
      | some e => some (.shp ((e.drop j).map treeV))
      | none => none
    | none => none
  | _ => none
def lendL (f : V → Option V) : List V → Option (List V)
  | [] => some []
  | v :: vs => match f v with
    | some v' => match lendL f vs with
      | some vs' => some (v' :: vs')
      | none => none
    | none => none
def lend2 (s : St) : V → Option V
  | .agg vs => match lendL (lend1 s) vs with
    | some l => some (.agg l)
    | none => none
  | .fn f (c :: cs) => match lendL (lend1 s) (c :: cs) with
    | some l => some (.fn f l)
    | none => none
  | v => lend1 s v
theorem lendL_spec {f : V → Option V} : ∀ {vs l : List V}, lendL f vs = some l → l.length = vs.length ∧ ∀ (k : Nat) (u : V), l[k]? = some u → ∃ v, vs[k]? = some v ∧ f v = some u
  | [], l, h => by obtain rfl := Option.some.inj (show some [] = some l from h); exact ⟨rfl, fun k u hk => by simp at hk⟩
  | v :: vs, l, h => by
    unfold lendL at h
    split at h
    case h_2 => cases h
    rename_i _ v' hv
    split at h
    case h_2 => cases h
    rename_i _ vs' hvs
    obtain rfl := Option.some.inj h
    obtain ⟨h1, h2⟩ := lendL_spec hvs
    refine ⟨by simp [h1], fun k u hk => ?_⟩
    cases k with
    | zero => obtain rfl := Option.some.inj hk; exact ⟨v, rfl, hv⟩
    | succ k => exact h2 k u hk

/-- The roots that a value names. -/
def roots1 : V → List Nat
  | .hdr r _ => [r]
  | .part r _ _ _ => [r]
  | .ptr r _ _ _ => [r]
  | _ => []
def roots2 : V → List Nat
  | .agg vs => vs.flatMap roots1
  | .fn _ cs => cs.flatMap roots1
  | v => roots1 v
def Lent (β : Base) (pm : Nat → Nat → Option (Nat × Path)) (ok' : Nat → Nat → Prop) (l : List Nat) : Prop := (∀ b o, okc β pm b o → ok' b o) ∧ ∀ r ∈ l, ∀ b o p, pm b o = some (r, p) → ok' b o
theorem Lent.up {ok' : Nat → Nat → Prop} {l : List Nat} (h : Lent β pm ok' l) {r : Nat} (hr : r ∈ l) {b o : Nat} (hb : okR β pm r b o) : ok' b o := by
  rcases hb with hb | ⟨p, hb⟩
  · exact h.1 b o hb
  · exact h.2 r hr b o p hb
theorem Lent.sub {ok' : Nat → Nat → Prop} {l m : List Nat} (h : Lent β pm ok' l) (hm : ∀ r ∈ m, r ∈ l) : Lent β pm ok' m := ⟨h.1, fun r hr => h.2 r (hm r hr)⟩

theorem lend1_ok (h : R β s a w g pm) {ok' : Nat → Nat → Prop} {v v' : V} (hok : Lent β pm ok' (roots1 v)) {x : Value} (hv : VR w (okc β pm) g s.len v x) (he : lend1 s v = some v') : VR w ok' noGh noAt v' x := by
  have up : ∀ b o c, okc β pm b o → w.cell? ⟨b, o, none⟩ = some c → ok' b o ∧ w.cell? ⟨b, o, none⟩ = some c := fun _ _ _ h1 h2 => ⟨hok.1 _ _ h1, h2⟩
  cases hv with
  | sc x => obtain rfl := Option.some.inj he; exact .sc _
  | sh n es c hh => obtain rfl := Option.some.inj he; exact .sh n es _ (hh.mono up)
  | shp cs b o vals h1 h2 => obtain rfl := Option.some.inj he; exact .shp cs b o vals (fun j v hv => up _ _ _ (h1 j v hv).1 (h1 j v hv).2) (fun j v hv => (h2 j v hv).mono up)
  | fn f caps xs hl hx =>
    cases caps with
    | nil => obtain rfl := Option.some.inj he; exact .fn f [] xs hl (fun k v x hv => by simp at hv)
    | cons => cases he
  | hdr r p n c hn hc =>
    simp only [lend1] at he
    split at he
    case h_2 => cases he
    rename_i _ es d m hat
    obtain rfl := Option.some.inj he
    have hne : n = es.length := by unfold St.len at hn; rw [hat] at hn; exact (Option.some.inj hn).symm
    subst hne
    exact .sh m es _ ((hdrSR h hat hc).mono (fun b o c k1 k2 => ⟨hok.up (by simp [roots1]) k1, k2⟩))
  | part r p o len n c hn hl hc =>
    simp only [lend1] at he
    split at he
    case h_2 => cases he
    rename_i _ es d m hat
    obtain rfl := Option.some.inj he
    have hne : n = es.length := by unfold St.len at hn; rw [hat] at hn; exact (Option.some.inj hn).symm
    subst hne
    have hb := h.blk r p es d m hat
    have hlen : ((es.drop o).take len).length = len := by rw [List.length_take, List.length_drop]; omega
    rcases hc with ⟨h1, rfl, h0⟩ | ⟨h1, A, cap', rfl, hcap, h2, h3⟩
    · subst h0
      simp only [List.take_zero]
      exact .sh m [] _ (.nil m none 0)
    · by_cases h0 : len = 0
      · subst h0
        simp only [List.take_zero]
        exact .sh m [] _ (.nil m (some A) cap')
      · rw [h2 (by omega)]
        have := SR.sl (w := w) (ok := ok') m ((es.drop o).take len) (g.blk r p) (g.off r p + o * g.sz r p) cap' (fun i' j' => (w.cell? ⟨g.blk r p, g.off r p + o * g.sz r p + i' * m + j', none⟩).getD undef) (fun i' e' he' => by
            rw [List.getElem?_take] at he'
            split at he'
            · rw [List.getElem?_drop] at he'; rw [hb.row _ e' he', hb.siz]
            · cases he') (fun i' j' e' v' he' hv' => by
            rw [List.getElem?_take] at he'
            split at he'
            · rw [List.getElem?_drop] at he'
              obtain ⟨c', c1, c2, _⟩ := placeSR h hat he' hv'
              rw [Nat.add_mul, ← Nat.add_assoc] at c1 c2
              rw [hb.siz] at c1 c2 ⊢
              exact ⟨hok.up (by simp [roots1]) c2, by rw [c1]; rfl⟩
            · cases he') (fun i' j' e' v' he' hv' => by
            rw [List.getElem?_take] at he'
            split at he'
            · rw [List.getElem?_drop] at he'
              obtain ⟨c', c1, c2, c3⟩ := placeSR h hat he' hv'
              rw [Nat.add_mul, ← Nat.add_assoc] at c1
              rw [hb.siz] at c1 ⊢
              rw [c1]; exact c3.mono (fun b o c k1 k2 => ⟨hok.up (by simp [roots1]) k1, k2⟩)
            · cases he') (by omega)
        rw [hlen] at this
        exact .sh m _ _ this
  | ptr r p i j n hn hl =>
    simp only [lend1] at he
    split at he
    case h_2 => cases he
    rename_i _ es d m hat
    split at he
    case h_2 => cases he
    rename_i _ e hes
    obtain rfl := Option.some.inj he
    refine .shp _ _ _ (fun k => (w.cell? ⟨g.blk r p, g.off r p + i * g.sz r p + j + k, none⟩).getD undef) (fun k v hk => ?_) (fun k v hk => ?_)
    · rw [List.getElem?_map, List.getElem?_drop] at hk
      cases hq : e[j + k]? with
      | none => rw [hq] at hk; cases hk
      | some u =>
        obtain ⟨c', c1, c2, c3⟩ := placeSR h hat hes hq
        rw [← Nat.add_assoc] at c1 c2
        exact ⟨hok.up (by simp [roots1]) c2, by rw [c1]; rfl⟩
    · rw [List.getElem?_map, List.getElem?_drop] at hk
      cases hq : e[j + k]? with
      | none => rw [hq] at hk; cases hk
      | some u =>
        rw [hq] at hk
        obtain rfl := Option.some.inj hk
        obtain ⟨c', c1, c2, c3⟩ := placeSR h hat hes hq
        rw [← Nat.add_assoc] at c1
        rw [c1]; exact treeV_ok (c3.mono (fun b o c k1 k2 => ⟨hok.up (by simp [roots1]) k1, k2⟩))
  | _ => cases he
theorem lend2_ok (h : R β s a w g pm) {ok' : Nat → Nat → Prop} {v v' : V} (hok : Lent β pm ok' (roots2 v)) {x : Value} (hv : VR w (okc β pm) g s.len v x) (he : lend2 s v = some v') : VR w ok' noGh noAt v' x := by
  have hL : ∀ (vs l : List V) (xs : List Value), Lent β pm ok' (vs.flatMap roots1) → (∀ (k : Nat) (v : V) (x : Value), vs[k]? = some v → xs[k]? = some x → VR w (okc β pm) g s.len v x) → lendL (lend1 s) vs = some l → ∀ (k : Nat) (v : V) (x : Value), l[k]? = some v → xs[k]? = some x → VR w ok' noGh noAt v x := fun vs l xs hokl hx hl k v x hk hxx => by
    obtain ⟨u, h1, h2⟩ := (lendL_spec hl).2 k v hk
    exact lend1_ok h (hokl.sub (fun r hr => List.mem_flatMap.2 ⟨u, List.mem_of_getElem? h1, hr⟩)) (hx k u x h1 hxx) h2
  cases hv with
  | agg vs xs hl hx =>
    simp only [lend2] at he
    split at he
    case h_2 => cases he
    rename_i _ l hll
    obtain rfl := Option.some.inj he
    exact .agg l xs (by rw [(lendL_spec hll).1]; exact hl) (hL vs l xs hok hx hll)
  | fn f caps xs hl hx =>
    cases caps with
    | nil => exact lend1_ok h hok (.fn f [] xs hl hx) he
    | cons c cs =>
      simp only [lend2] at he
      split at he
      case h_2 => cases he
      rename_i _ l hll
      obtain rfl := Option.some.inj he
      exact .fn f l xs (by rw [(lendL_spec hll).1]; exact hl) (hL _ l xs hok hx hll)
  | sc x => exact lend1_ok h hok (.sc _) he
  | sh n es c hh => exact lend1_ok h hok (.sh n es _ hh) he
  | shp cs b o vals h1 h2 => exact lend1_ok h hok (.shp cs b o vals h1 h2) he
  | hdr r p n c hn hc => exact lend1_ok h hok (.hdr r p n _ hn hc) he
  | part r p o len n c hn hl hc => exact lend1_ok h hok (.part r p o len n _ hn hl hc) he
  | ptr r p i j n hn hl => exact lend1_ok h hok (.ptr r p i j n hn hl) he
  | _ => cases he
end
end Ev
