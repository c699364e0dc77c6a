/- The evaluator of operations: what must be so for what follows. -/
import Derived.Test.YtfhpkcdkinnnmaaGreatDoorE2
import Derived.Test.YtfhpkcdkinnnmaaGreatDoorE1
import Derived.Laws.StructEq
import Derived.Laws.BytesString
import Derived.Laws.Tables
namespace Ev
open Go Go.RowKit
set_option linter.unusedVariables false

/-- What is told of a program and of one of its functions. -/
structure Cx where
  P : Program
  ty : TypeId → Option TyI
  hz : TypeId → List Nat
  gl : List (Addr × Option Value)
  md : Nat → List Nat
  fs : Nat → Bool
  ph : Nat → List (List Nat)
  rh : List (List Nat)
  dp : Bool
  eqt : TypeId → Option (List Nat)
  keep : Nat → List Nat
  mu : Nat → List Nat
  jn : Nat → Bool := fun _ => false
  nl : Nat → List (Nat × Nat) := fun _ => []
  mp : Nat → List Nat := md
def Cx.c (C : Cx) : Ctx := ⟨C.P, C.ty, fun _ _ => none, 0, fun _ => []⟩

-- where the evaluation stops, if it can't see further
def optP {α : Type} (x : Option α) (K : α → Prop) : Prop :=
  match x with
  | some a => K a
  | none => False
def chkP (b : Bool) (K : Prop) : Prop :=
  match b with
  | true => K
  | false => False
def ifP (b : Bool) (A B : Prop) : Prop :=
  match b with
  | true => A
  | false => B
theorem optP_of {α : Type} {x : Option α} {K : α → Prop} {a : α} (h : x = some a) (k : K a) : optP x K := by rw [h]; exact k
theorem chkP_of {b : Bool} {K : Prop} (h : b = true) (k : K) : chkP b K := by rw [h]; exact k
theorem ifP_of {b : Bool} {A B : Prop} (h : b = true → A) (h' : b = false → B) : ifP b A B := by
  cases b with
  | true => exact h rfl
  | false => exact h' rfl
theorem optP_some {α : Type} {x : Option α} {K : α → Prop} (h : optP x K) : ∃ a, x = some a ∧ K a := by
  cases x with
  | none => exact h.elim
  | some a => exact ⟨a, rfl, h⟩
theorem chkP_some {b : Bool} {K : Prop} (h : chkP b K) : b = true ∧ K := by
  cases b with
  | false => exact h.elim
  | true => exact ⟨rfl, h⟩

/-- What stands at a place. -/
def atP (s : St) (r : Nat) (p : Path) (K : List (List V) → Bool → Nat → Prop) : Prop :=
  match p with
  | [] => match s.obj r with
    | some ⟨es, d, n, _⟩ => K es d n
    | none => False
  | _ => match s.at r p with
    | some (es, d, n) => K es d n
    | none => False
theorem atP_some {s : St} {r : Nat} {p : Path} {K : List (List V) → Bool → Nat → Prop} (h : atP s r p K) : ∃ es d n, s.at r p = some (es, d, n) ∧ K es d n := by
  unfold atP at h
  split at h
  · split at h
    · rename_i es d n b ho
      exact ⟨es, d, n, by unfold St.at; rw [ho]; rfl, h⟩
    · exact h.elim
  · split at h
    · rename_i es d n ho
      exact ⟨es, d, n, ho, h⟩
    · exact h.elim
theorem atP_of {s : St} {r : Nat} {x : Nat × Nat} {p : Path} {K : List (List V) → Bool → Nat → Prop} {es : List (List V)} {d : Bool} {n : Nat} (h : s.at r (x :: p) = some (es, d, n)) (k : K es d n) : atP s r (x :: p) K := by
  unfold atP; dsimp only; rw [h]; exact k

-- operations that turn nothing
def loadP (C : Cx) (s : St) (t : TypeId) (a : V) (K : V → Prop) : Prop :=
  match C.ty t with
  | some i => match a with
    | .shp cs => optP (takeN i.size cs) fun l => optP (mk i (l.map shView)) K
    | .bxr cs => optP (takeN i.size cs) fun l => optP (mk i l) K
    | .ptr r p k j => match s.obj r with
      | some o => match isBox o.bx p with
        | true => match o.es with
          | [row] => match Nat.beq k 0 with
            | true => optP (takeN i.size (row.drop j)) fun l => optP (mk i (viewL r p o.deep k j l)) K
            | false => False
          | _ => False
        | false => atP s r p fun es d _ => optP es[k]? fun cs => optP (takeN i.size (cs.drop j)) fun l => optP (mk i (viewL r p d k j l)) K
      | none => False
    | _ => False
  | none => False
def idxP (C : Cx) (s : St) (t : TypeId) (x ix : V) (K : V → Prop) : Prop :=
  match C.ty t with
  | some ⟨_, .slice e, _, _⟩ => match C.ty e with
    | some ei => match ix with
      | .sc (.int _ i) => match x with
        | .sh n es => match Nat.beq n ei.size with
          | true => chkP (decide (0 ≤ i)) (optP es[i.toNat]? fun cs => K (.shp cs))
          | false => False
        | .hdr r p => atP s r p fun es _ n => match Nat.beq n ei.size with
          | true => chkP (decide (0 ≤ i)) (optP es[i.toNat]? fun _ => K (.ptr r p i.toNat 0))
          | false => False
        | .part r p o len => atP s r p fun es _ n => match Nat.beq n ei.size with
          | true => chkP (decide (0 ≤ i)) (chkP (decide (i < (len : Int))) (optP es[o + i.toNat]? fun _ => K (.ptr r p (o + i.toNat) 0)))
          | false => False
        | _ => False
      | _ => False
    | none => False
  | _ => False
def strP (C : Cx) (t : TypeId) (x ix : V) (K : V → Prop) : Prop :=
  match C.ty t with
  | some ⟨_, .str, _, _⟩ => match x with
    | .sc (.string s) => match ix with
      | .sc (.int _ i) => chkP (decide (0 ≤ i)) (chkP (decide (i < (s.size : Int))) (K (.sc (.int .u8 (byteAt s i)))))
      | _ => False
    | _ => False
  | _ => False
def intOf : V → Option Int
  | .sc (.int _ n) => some n
  | _ => none
/-- The bounds of a part. -/
def bndP (s : St) (len : Nat) (lo hi : Option Operand) (K : Nat → Nat → Prop) : Prop :=
  match lo with
  | none => match hi with
    | none => K 0 len
    | some h => optP (intOf (s.opd h)) fun h => chkP (decide (0 ≤ h)) (chkP (decide (h ≤ (len : Int))) (K 0 h.toNat))
  | some l => optP (intOf (s.opd l)) fun l => match hi with
    | none => chkP (decide (0 ≤ l)) (chkP (decide (l ≤ (len : Int))) (K l.toNat len))
    | some h => optP (intOf (s.opd h)) fun h => chkP (decide (0 ≤ l)) (chkP (decide (l ≤ h)) (chkP (decide (h ≤ (len : Int))) (K l.toNat h.toNat)))
def sliceP (C : Cx) (s : St) (t : TypeId) (x : V) (lo hi : Option Operand) (K : V → Prop) : Prop :=
  match C.ty t with
  | some ⟨_, .str, _, _⟩ => match x with
    | .sc (.string b) => bndP s b.size lo hi fun l h => K (.sc (.string (b.extract l h)))
    | _ => False
  | some ⟨_, .slice e, _, _⟩ => match C.ty e with
    | some ei => match x with
      | .sh n es => match Nat.beq n ei.size with
        | true => bndP s es.length lo hi fun l h => K (.sh n ((es.take h).drop l))
        | false => False
      | .hdr r p => atP s r p fun es _ n => match Nat.beq n ei.size with
        | true => bndP s es.length lo hi fun l h => K (.part r p l (h - l))
        | false => False
      | .part r p o len => atP s r p fun es _ n => match Nat.beq n ei.size with
        | true => bndP s len lo hi fun l h => K (.part r p (o + l) (h - l))
        | false => False
      | _ => False
    | none => False
  | _ => False
/-- Numbers and texts. -/
def binP (C : Cx) (op : BinOp) (t : TypeId) (x y : V) (K : V → Prop) : Prop :=
  match x, y with
  | .sc (.int k a), .sc (.int l b) => match op with
    | .shl => chkP (decide (0 ≤ b)) (K (.sc (.int k (k.wrap (a * 2 ^ (min b.toNat k.bits))))))
    | .shr => chkP (decide (0 ≤ b)) (K (.sc (.int k (a.fdiv (2 ^ (min b.toNat k.bits))))))
    | .quo => match sameK k l with
      | true => chkP (!(b == 0)) (K (.sc (.int k (k.wrap (a.tdiv b)))))
      | false => False
    | .rem => match sameK k l with
      | true => chkP (!(b == 0)) (K (.sc (.int k (a.tmod b))))
      | false => False
    | _ => optP (evBin op (.sc (.int k a)) (.sc (.int l b))) K
  | .sc (.string a), .sc (.string b) => match op with
    | .add => chkP (decide (a.size + b.size ≤ 9223372036854775807)) (K (.sc (.string (a ++ b))))
    | _ => optP (evBin op (.sc (.string a)) (.sc (.string b))) K
  | .sc (.bool a), .sc (.bool b) => match C.ty t with
    | some ⟨_, .bool, _, _⟩ => match op with
      | .eql => K (.sc (.bool (a == b)))
      | .neq => K (.sc (.bool (a != b)))
      | _ => False
    | _ => False
  | _, _ => False
/-- Two structs of plain cells are one. -/
def sameV : Nat → V → V → Option Bool
  | 1, .sc (.int k a), .sc (.int l b) => match sameK k l with
    | true => some (a == b)
    | false => none
  | 2, .sc (.bool a), .sc (.bool b) => some (a == b)
  | 3, .sc (.string a), .sc (.string b) => some (a.toList == b.toList)
  | _, _, _ => none
def sameVs : List Nat → List V → List V → Option Bool
  | [], [], [] => some true
  | n :: ns, u :: us, v :: vs => match sameV n u v with
    | some b => match sameVs ns us vs with
      | some c => some (b && c)
      | none => none
    | none => none
  | _, _, _ => none
def pickP (c a b : V) (K : V → Prop) : Prop :=
  match c with
  | .sc (.bool t) => ifP t (K a) (K b)
  | _ => False
/-- A value's cells from a place on. -/
def fieldP (C : Cx) (t : TypeId) (x : V) (f : Nat) (K : V → Prop) : Prop :=
  match C.ty t with
  | some ⟨_, .struct fs, _, _⟩ => match fs[f]? with
    | some (o, n, ag) => match x with
      | .agg vs => optP (takeN n (vs.drop o)) fun l => match ag with
        | true => K (.agg l)
        | false => match l with
          | [v] => K v
          | _ => False
      | _ => False
    | none => False
  | _ => False
def putCells : List V → Nat → List V → List V
  | vs, _, [] => vs
  | vs, o, c :: cs => putCells (vs.set o c) (o + 1) cs
def buildFs (fs : List (Nat × Nat × Bool)) (s : St) : List (Nat × Operand) → List V → Option (List V)
  | [], vs => some vs
  | (f, x) :: l, vs => match fs[f]? with
    | some (o, n, _) => match Nat.beq (cellsV (s.opd x)).length n with
      | true => match Nat.ble (o + n) vs.length with
        | true => buildFs fs s l (putCells vs o (cellsV (s.opd x)))
        | false => none
      | false => none
    | none => none
def fullF : List (Nat × Nat × Bool) → Bool
  | [] => true
  | (_, n, _) :: l => match n with
    | 0 => false
    | _ + 1 => fullF l
def buildP (C : Cx) (s : St) (t : TypeId) (parts : List (Nat × Operand)) (K : V → Prop) : Prop :=
  match C.ty t with
  | some ⟨_, .struct fs, z, _⟩ => match fullF fs with
    | true => match allB (fun x => tellable (s.opd x.2)) parts with
      | true => optP (buildFs fs s parts (z.map .sc)) fun vs => K (.agg vs)
      | false => False
    | false => False
  | _ => False
def byteRow (b : UInt8) : List V := [.sc (.int .u8 b.toNat)]
/-- The bytes of a slice of them. -/
def bytesP (s : St) (x : V) (K : V → Prop) : Prop :=
  match x with
  | .sc (.slice none 0 0) => K (.sc (.string ByteArray.empty))
  | .sh 1 es => ∃ l : List UInt8, es = l.map byteRow ∧ K (.sc (.string ⟨l.toArray⟩))
  | .hdr r p => atP s r p fun es _ n => match Nat.beq n 1 with
    | true => ∃ l : List UInt8, es = l.map byteRow ∧ K (.sc (.string ⟨l.toArray⟩))
    | false => False
  | .part r p o len => atP s r p fun es _ n => match Nat.beq n 1 with
    | true => ∃ l : List UInt8, (es.drop o).take len = l.map byteRow ∧ K (.sc (.string ⟨l.toArray⟩))
    | false => False
  | _ => False
def minmax (mx : Bool) : V → V → Option V
  | .sc (.int k a), .sc (.int l b) => match sameK k l with
    | true => match mx with
      | true => some (.sc (.int k (max a b)))
      | false => some (.sc (.int k (min a b)))
    | false => none
  | _, _ => none
def lenP (C : Cx) (s : St) (t : TypeId) (x : V) (K : V → Prop) : Prop :=
  match C.ty t with
  | some ⟨_, .str, _, _⟩ => match x with
    | .sc (.string b) => K (.sc (.int .i64 b.size))
    | _ => False
  | some ⟨_, .slice _, _, _⟩ => match x with
    | .sc (.slice none 0 0) => K (.sc (.int .i64 0))
    | .sh _ es => K (.sc (.int .i64 es.length))
    | .hdr r p => atP s r p fun es _ _ => K (.sc (.int .i64 es.length))
    | .part _ _ _ len => K (.sc (.int .i64 len))
    | _ => False
  | _ => False
def nilP : V → (V → Prop) → Prop
  | .ptr r p i j, K => K (.ptr r p i j)
  | .shp cs, K => K (.shp cs)
  | .bxr cs, K => K (.bxr cs)
  | .fn f cs, K => K (.fn f cs)
  | _, _ => False
/-- An operation that turns nothing. -/
def pureP (C : Cx) (s : St) (o : Oper) (K : V → Prop) : Prop :=
  match o.op with
  | .move x => K (s.opd x)
  | .assign x => K (s.opd x)
  | .pick c a b => pickP (s.opd c) (s.opd a) (s.opd b) K
  | .load t a => loadP C s t (s.opd a) K
  | .indexAddr t x i => idxP C s t (s.opd x) (s.opd i) K
  | .fieldAddr t x f => optP (evFieldAddr C.c t f (s.opd x)) K
  | .index t x i => strP C t (s.opd x) (s.opd i) K
  | .slice t x lo hi none => sliceP C s t (s.opd x) lo hi K
  | .binOp op t x y _ => match s.opd x with
    | .agg us => match C.eqt t with
      | some ns => match s.opd y with
        | .agg vs => match op with
          | .eql => optP (sameVs ns us vs) fun b => K (.sc (.bool b))
          | .neq => optP (sameVs ns us vs) fun b => K (.sc (.bool (!b)))
          | _ => False
        | _ => False
      | none => False
    | _ => binP C op t (s.opd x) (s.opd y) K
  | .unOp op _ x => optP (evUn op (s.opd x)) K
  | .convert a b x => match C.ty a with
    | some ⟨_, .slice e, _, _⟩ => match C.ty e with
      | some ⟨_, .int .u8, _, _⟩ => match C.ty b with
        | some ⟨_, .str, _, _⟩ => bytesP s (s.opd x) K
        | _ => False
      | _ => False
    | _ => optP (evConv C.c a b (s.opd x)) K
  | .extract x i => match s.opd x with
    | .tup vs => optP vs[i]? K
    | _ => False
  | .makeFunc fn fs cs => match fn, fs.toList with
    | .func f, [] => K (.fn f (cs.toList.map s.opd))
    | _, _ => False
  | .field t x f => fieldP C t (s.opd x) f K
  | .build t ps => buildP C s t ps.toList K
  | .nilCheck x => nilP (s.opd x) K
  | .call c => match c.callee with
    | .builtin .len => match c.args.toList, c.argTypes.toList with
      | [x], [t] => lenP C s t (s.opd x) K
      | _, _ => False
    | .builtin .max => match c.args.toList with
      | [x, y] => optP (minmax true (s.opd x) (s.opd y)) K
      | _ => False
    | .builtin .min => match c.args.toList with
      | [x, y] => optP (minmax false (s.opd x) (s.opd y)) K
      | _ => False
    | _ => False
  | _ => False
end Ev
namespace Ev
open Go Go.RowKit
set_option linter.unusedVariables false

-- states, told by what they have
def setO (r : Nat) (o : Option Ob) : List (Nat × Option Ob) → List (Nat × Option Ob)
  | [] => [(r, o)]
  | x :: l => match x with
    | (q, u) => match Nat.beq q r with
      | true => (r, o) :: l
      | false => (q, u) :: setO r o l
def mapT (f : V → V) : List (Nat × V) → List (Nat × V)
  | [] => []
  | x :: l => match x with
    | (t, u) => (t, f u) :: mapT f l
theorem look_setO (r : Nat) (o : Option Ob) : ∀ (l : List (Nat × Option Ob)) (t : Nat), look none (setO r o l) t = if r = t then o else look none l t
  | [], t => by
    show look none [(r, o)] t = _
    rw [look_cons]
  | (u, x) :: l, t => by
    unfold setO
    dsimp only
    cases e : Nat.beq u r with
    | true =>
      obtain rfl := Nat.eq_of_beq_eq_true e
      dsimp only
      rw [look_cons, look_cons]
      by_cases h : u = t
      · rw [if_pos h, if_pos h]
      · rw [if_neg h, if_neg h, if_neg h]
    | false =>
      have hne : u ≠ r := fun e' => by rw [e', Nat.beq_refl] at e; cases e
      dsimp only
      rw [look_cons, look_cons, look_setO r o l t]
      by_cases h : u = t
      · subst h; rw [if_pos rfl, if_pos rfl, if_neg (fun e => hne e.symm)]
      · rw [if_neg h, if_neg h]
theorem mapT_eq (f : V → V) : ∀ l, mapT f l = l.map fun x => (x.1, f x.2)
  | [] => rfl
  | (t, u) :: l => by unfold mapT; rw [mapT_eq f l]; rfl
/-- The same, told otherwise. -/
structure Same (s s' : St) : Prop where
  get : ∀ t, s'.get t = s.get t
  obj : ∀ r, s'.obj r = s.obj r
  nx : s'.nx = s.nx
  fz : s'.fz = s.fz
  ng : s'.ng = s.ng
theorem R.same {β : Base} {s s' : St} {a : Act} {w : World} {g : Gh} {pm : Nat → Nat → Option (Nat × Path)} (h : R β s a w g pm) (e : Same s s') : R β s' a w g pm := h.ext e.get e.obj e.nx e.fz e.ng
theorem Same.len {s s' : St} (e : Same s s') : s'.len = s.len := by
  funext r p; unfold St.len St.at; rw [e.obj]
def St.newO : St → Ob → St
  | ⟨tm, ob, nx, fz, ng⟩, o => ⟨tm, setO nx (some o) ob, nx + 1, fz, ng⟩
theorem St.newO_eq (s : St) (o : Ob) : Same (s.newOb o) (s.newO o) := by
  cases s
  exact ⟨fun _ => rfl, fun r => by show look none (setO _ _ _) r = look none (_ :: _) r; rw [look_setO, look_cons], rfl, rfl, rfl⟩
def St.putO : St → Nat → Path → (List (List V) → List (List V)) → St
  | ⟨tm, ob, nx, fz, ng⟩, r, p, f => match look none ob r with
    | some ⟨es, d, n, b⟩ => ⟨tm, setO r (some ⟨putAt f es p, d, n, b⟩) ob, nx, fz, ng⟩
    | none => ⟨tm, ob, nx, fz, ng⟩
theorem St.putO_eq (s : St) (r : Nat) (p : Path) (f : List (List V) → List (List V)) : Same (s.putOb r p f) (s.putO r p f) := by
  obtain ⟨tm, ob, nx, fz, ng⟩ := s
  unfold St.putO St.putOb St.obj
  dsimp only
  cases look none ob r with
  | none => exact ⟨fun _ => rfl, fun _ => rfl, rfl, rfl, rfl⟩
  | some o => exact ⟨fun _ => rfl, fun q => by show look none (setO _ _ _) q = look none (_ :: _) q; rw [look_setO, look_cons], rfl, rfl, rfl⟩
def dropA : List Nat → List (Nat × Option Ob) → List (Nat × Option Ob)
  | [], l => l
  | q :: dr, l => setO q none (dropA dr l)
theorem look_dropA (t : Nat) : ∀ (dr : List Nat) (l : List (Nat × Option Ob)), look none (dropA dr l) t = look none (dropAll dr l) t
  | [], l => rfl
  | q :: dr, l => by
    show look none (setO q none (dropA dr l)) t = look none ((q, none) :: dropAll dr l) t
    rw [look_setO, look_cons, look_dropA t dr l]
theorem Same.put {s s' : St} (h : Same s s') (r : Nat) (p : Path) (f : List (List V) → List (List V)) : Same (s.putOb r p f) (s'.putO r p f) := by
  have h1 := St.putO_eq s' r p f
  refine ⟨fun t => (h1.get t).trans ?_, fun q => (h1.obj q).trans ?_, h1.nx.trans ?_, h1.fz.trans ?_, h1.ng.trans ?_⟩
  · rw [putOb_get, putOb_get]; exact h.get t
  · by_cases e : q = r
    · subst e
      unfold St.putOb
      rw [h.obj]
      cases ho : s.obj q with
      | none => rw [h.obj]
      | some o =>
        show look none ((q, some _) :: s'.ob) q = look none ((q, some _) :: s.ob) q
        rw [look_cons, look_cons, if_pos rfl, if_pos rfl]
    · rw [putOb_obj_ne e, putOb_obj_ne e]; exact h.obj q
  · rw [(St.putOb_tm _ _ _ _).2.1, (St.putOb_tm _ _ _ _).2.1]; exact h.nx
  · rw [(St.putOb_tm _ _ _ _).2.2, (St.putOb_tm _ _ _ _).2.2]; exact h.fz
  · rw [St.putOb_ng, St.putOb_ng]; exact h.ng
def rowS : St → Nat → Path → Nat → List V → (V → V) → List Nat → Nat → St
  | ⟨tm, ob, nx, fz, ng⟩, r, p, i, e, kf, dr, c => (⟨mapT kf tm, dropA dr ob, c, fz, ng⟩ : St).putO r p fun es => es.set i e
theorem rowS_eq (s : St) (r : Nat) (p : Path) (i : Nat) (e : List V) (kf : V → V) (dr : List Nat) (c : Nat) : Same (rowSt s r p i e kf dr c) (rowS s r p i e kf dr c) := by
  obtain ⟨tm, ob, nx, fz, ng⟩ := s
  have h : Same (⟨tm.map fun x => (x.1, kf x.2), dropAll dr ob, c, fz, ng⟩ : St) (⟨mapT kf tm, dropA dr ob, c, fz, ng⟩ : St) := ⟨fun t => by unfold St.get; dsimp only; rw [mapT_eq], fun r => look_dropA r dr ob, rfl, rfl, rfl⟩
  exact h.put r p _
def St.apS : St → Nat → Ob → List (List V) → St
  | ⟨tm, ob, nx, fz, ng⟩, r, ⟨es, d, n, b⟩, rows => ⟨mapT (kill (hitTop r)) tm, setO r (some ⟨es ++ rows, d, n, b⟩) ob, nx, fz, ng⟩
theorem St.apS_eq (s : St) (r : Nat) (o : Ob) (rows : List (List V)) : Same (s.app r o rows) (s.apS r o rows) := by
  cases s; cases o
  exact ⟨fun t => by unfold St.get St.apS St.app; dsimp only; rw [mapT_eq], fun q => by show look none (setO _ _ _) q = look none (_ :: _) q; rw [look_setO, look_cons], rfl, rfl, rfl⟩
def St.abS : St → Nat → Nat → Ob → List (List V) → St
  | ⟨tm, ob, nx, fz, ng⟩, r, q, ⟨_, d, n, b⟩, es => ⟨mapT (kill (hitRoot q)) tm, setO r (some ⟨es, d, n, b⟩) (setO q none ob), nx, fz, ng⟩
theorem Same.absorb {s s' : St} (h : Same s s') (r q : Nat) (o : Ob) (es : List (List V)) : Same (s.absorb r q o es) (s'.abS r q o es) := by
  obtain ⟨tm', ob', nx', fz', ng'⟩ := s'
  cases o
  refine ⟨fun t => ?_, fun x => ?_, h.nx, h.fz, h.ng⟩
  · show look V.dead (mapT (kill (hitRoot q)) tm') t = look V.dead (s.tm.map fun x => (x.1, kill (hitRoot q) x.2)) t
    rw [mapT_eq, look_map V.dead V.dead _ rfl, look_map V.dead V.dead _ rfl]
    exact congrArg _ (h.get t)
  · show look none (setO r _ (setO q none ob')) x = look none ((r, _) :: (q, none) :: s.ob) x
    rw [look_setO, look_setO, look_cons, look_cons]
    have := h.obj x
    unfold St.obj at this
    rw [this]
def St.frS : St → Nat → St
  | ⟨tm, ob, nx, fz, ng⟩, r => ⟨mapT (frz3 ⟨tm, ob, nx, fz, ng⟩ r) tm, setO r none ob, nx, fz, ng⟩
theorem St.frS_eq (s : St) (r : Nat) : Same (s.frz r) (s.frS r) := by
  cases s
  exact ⟨fun t => by unfold St.get St.frS St.frz; dsimp only; rw [mapT_eq], fun q => by show look none (setO _ _ _) q = look none (_ :: _) q; rw [look_setO, look_cons], rfl, rfl, rfl⟩
def setA : List (Nat × Option Ob) → List (Nat × Option Ob) → List (Nat × Option Ob)
  | [], ob => ob
  | x :: l, ob => match x with
    | (r, o) => setO r o (setA l ob)
theorem look_setA (t : Nat) : ∀ (l ob : List (Nat × Option Ob)), look none (setA l ob) t = look none (l ++ ob) t
  | [], ob => rfl
  | (r, o) :: l, ob => by
    show look none (setO r o (setA l ob)) t = look none ((r, o) :: (l ++ ob)) t
    rw [look_setO, look_cons, look_setA t l ob]
def St.caS : St → List Nat → List Ob → List (Nat × Option Ob) → Nat → St
  | ⟨tm, ob, nx, fz, ng⟩, G, os, l, c => ⟨mapT (kill (hitG G)) tm, setA (givL G os ++ l) ob, c, fz, ng⟩
theorem St.caS_eq (s : St) (G : List Nat) (os : List Ob) (l : List (Nat × Option Ob)) (c : Nat) : Same (s.called G os l c) (s.caS G os l c) := by
  cases s
  exact ⟨fun t => by unfold St.get St.caS St.called; dsimp only; rw [mapT_eq], fun q => by show look none (setA _ _) q = look none (givL G os ++ (l ++ _)) q; rw [look_setA, List.append_assoc], rfl, rfl, rfl⟩
def St.seS : St → List Nat → List Nat → St
  | ⟨tm, ob, nx, fz, ng⟩, keep, L => ⟨selT ⟨tm, ob, nx, fz, ng⟩ (invL ng L) keep, selL ⟨tm, ob, nx, fz, ng⟩ ng L ++ selG ⟨tm, ob, nx, fz, ng⟩ ng, ng + L.length, fz, ng⟩
theorem St.seS_eq (s : St) (keep L : List Nat) : s.seS keep L = s.sel keep L := by cases s; rfl
def St.moS : St → Nat → Nat → Path → St
  | ⟨tm, ob, nx, fz, ng⟩, q, r, P => ⟨mapT (mov q r P) tm, setO q none ob, nx, fz, ng⟩
theorem St.moS_eq (s : St) (q r : Nat) (P : Path) : Same ((s.movT q r P).dropOb q) (s.moS q r P) := by
  cases s
  exact ⟨fun t => by unfold St.get St.moS St.dropOb St.movT; dsimp only; rw [mapT_eq], fun r => by show look none (setO _ _ _) r = look none (_ :: _) r; rw [look_setO, look_cons]; rfl, rfl, rfl, rfl⟩
def St.clS (s : St) (u : V) (r : Nat) (p : Path) (j : Nat) : St :=
  match u with
  | .own _ _ _ => match s with
    | ⟨tm, ob, nx, fz, ng⟩ => ⟨mapT (kill (hitAt r p j)) tm, ob, nx, fz, ng⟩
  | .sl _ _ => match s with
    | ⟨tm, ob, nx, fz, ng⟩ => ⟨mapT (kill (hitAt r p j)) tm, ob, nx, fz, ng⟩
  | _ => s
theorem St.clS_eq (s : St) (u : V) (r : Nat) (p : Path) (j : Nat) : s.clS u r p j = s.clear u r p j := by
  cases s; cases u <;> simp only [St.clS, St.clear, St.killT, mapT_eq]
/-- Only these temporaries are kept. -/
def restr : List Nat → List (Nat × V) → List (Nat × V)
  | [], _ => []
  | t :: l, tm => match look .dead tm t with
    | .dead => restr l tm
    | v => (t, v) :: restr l tm
def St.res : St → List Nat → St
  | ⟨tm, ob, nx, fz, ng⟩, l => ⟨restr l tm, ob, nx, fz, ng⟩

def putP (s : St) (dst : Option Nat) (v : V) (K : St → Prop) : Prop :=
  match s with
  | ⟨tm, ob, nx, fz, ng⟩ => match dst with
    | none => K ⟨tm, ob, nx, fz, ng⟩
    | some d => match Nat.blt d fz with
      | true => forceV v fun v' => K ⟨(d, v') :: tm, ob, nx, fz, ng⟩
      | false => False

-- what stands in a box becomes an object of its own, and keeps its readers
def det1 (r j q : Nat) : V → V
  | .hdr r' p => match Nat.beq r' r with
    | true => match p with
      | (_, j') :: p' => match Nat.beq j' j with
        | true => .hdr q p'
        | false => .hdr r' p
      | [] => .hdr r' []
    | false => .hdr r' p
  | .part r' p o l => match Nat.beq r' r with
    | true => match p with
      | (_, j') :: p' => match Nat.beq j' j with
        | true => .part q p' o l
        | false => .part r' p o l
      | [] => .part r' [] o l
    | false => .part r' p o l
  | .ptr r' p a b => match Nat.beq r' r with
    | true => match p with
      | (_, j') :: p' => match Nat.beq j' j with
        | true => .ptr q p' a b
        | false => .ptr r' p a b
      | [] => .ptr r' [] a b
    | false => .ptr r' p a b
  | .sc x => .sc x
  | .sh n es => .sh n es
  | .shp cs => .shp cs
  | .fn f [] => .fn f []
  | _ => .dead
def det2 (r j q : Nat) : V → V
  | .agg vs => .agg (vs.map (det1 r j q))
  | .fn f (c :: cs) => .fn f ((c :: cs).map (det1 r j q))
  | v => det1 r j q v
def det3 (r j q : Nat) : V → V
  | .tup vs => .tup (vs.map (det2 r j q))
  | v => det2 r j q v
def St.detB : St → Nat → Nat → Option St
  | ⟨tm, ob, nx, fz, ng⟩, r, j => match look none ob r with
    | some ⟨es, d, n, b⟩ => match b with
      | true => match es with
        | [row] => match row[j]? with
          | some u => match ownIn d u with
            | some o => some ⟨mapT (det3 r j nx) tm, setO nx (some o) (setO r (some ⟨[row.set j .dead], d, n, true⟩) ob), nx + 1, fz, ng⟩
            | none => none
          | none => none
        | _ => none
      | false => none
    | none => none
/-- What stands in boxes and is named by a value's cells from k on becomes its own. -/
def normD (acc : St → V) : Nat → Nat → St → St
  | 0, _, s => s
  | n + 1, k, s => match (cellsV (acc s))[k]? with
    | some (.hdr r ((_, j) :: [])) => match s.detB r j with
      | some s' => normD acc n (k + 1) s'
      | none => normD acc n (k + 1) s
    | _ => normD acc n (k + 1) s
def frzR (s : St) (q : Nat) : St :=
  match Nat.ble s.ng q with
  | true => s.frS q
  | false => s
/-- What must only be read from now on, where a value's cells from k on go. -/
def normF (acc : St → V) (keepH : Bool) : Nat → Nat → St → St
  | 0, _, s => s
  | n + 1, k, s => match (cellsV (acc s))[k]? with
    | some (.hdr q []) => match keepH with
      | true => normF acc keepH n (k + 1) s
      | false => normF acc keepH n (k + 1) (frzR s q)
    | some (.part q _ _ _) => normF acc keepH n (k + 1) (frzR s q)
    | _ => normF acc keepH n (k + 1) s
def norm (acc : St → V) (keepH : Bool) (s : St) : St := normF acc keepH (cellsV (acc s)).length 0 (normD acc (cellsV (acc s)).length 0 s)
def allZ : List Nat → Bool
  | [] => true
  | 0 :: l => allZ l
  | _ :: _ => false
/-- Whether the slices of such elements own what these have. -/
def dpOf (C : Cx) (e : TypeId) : Bool :=
  match allZ (C.hz e) with
  | true => true
  | false => C.dp

def newP (s : St) (k : Nat) (hs : List Nat) (vs : List V) (dst : Option Nat) (K : St → Prop) : Prop :=
  forceN s.nx fun r => match rowE (s.newO ⟨[List.replicate k .dead], true, k, true⟩) true true r [] 0 vs 0 hs (List.replicate k .dead) (fun v => v) [] (r + 1) with
    | some (e', kf, dr, c) => forceSt (rowS (s.newO ⟨[List.replicate k .dead], true, k, true⟩) r [] 0 e' kf dr c) fun s' => putP s' dst (.ptr r [] 0 0) K
    | none => False
/-- Whether one of these is the whole of what was given. -/
def hasGiven (ng : Nat) : List V → Bool
  | [] => false
  | v :: vs => match v with
    | .hdr q _ => match Nat.blt q ng with
      | true => true
      | false => hasGiven ng vs
    | _ => hasGiven ng vs
def boxO (C : Cx) (s : St) (t : TypeId) (x : Operand) (dst : Option Nat) (K : St → Prop) : Prop :=
  forceSt (norm (fun s => s.opd x) true s) fun s => match tellable (s.opd x) with
    | true => forceN (cellsV (s.opd x)).length fun k => newP s k (C.hz t) (cellsV (s.opd x)) dst K
    | false => False
/-- A box of what was given is only read. -/
def boxP (C : Cx) (s : St) (t : TypeId) (x : Operand) (dst : Option Nat) (K : St → Prop) : Prop :=
  match s.opd x with
  | .agg vs => match hasGiven s.ng vs with
    | true => putP s dst (.bxr vs) K
    | false => boxO C s t x dst K
  | _ => boxO C s t x dst K
def allocP (C : Cx) (s : St) (t : TypeId) (dst : Option Nat) (K : St → Prop) : Prop :=
  match C.ty t with
  | some i => forceN i.zero.length fun k => newP s k (C.hz t) (i.zero.map .sc) dst K
  | none => False
def storeP (C : Cx) (s : St) (t : TypeId) (a x : Operand) (dst : Option Nat) (K : St → Prop) : Prop :=
  forceSt (norm (fun s => s.opd x) true s) fun s => match tellable (s.opd x) with
    | true => match C.ty t with
      | some i => match Nat.beq (cellsV (s.opd x)).length i.size with
        | true => match s.opd a with
          | .ptr r p k j => match s.obj r with
            | some o => match isBox o.bx p with
              | true => match o.es with
                | [row] => match Nat.beq k 0 with
                  | true => match rowE s true o.deep r [] 0 (cellsV (s.opd x)) j (C.hz t) row (fun v => v) [] s.nx with
                    | some (e', kf, dr, c) => forceSt (rowS s r [] 0 e' kf dr c) fun s' => putP s' dst .dead K
                    | none => False
                  | false => False
                | _ => False
              | false => atP s r p fun _ d _ => match normF (fun s => s.opd x) d (cellsV (s.opd x)).length 0 s with
                | s => match tellable (s.opd x) with
                  | true => match s.opd a with
                    | .ptr r p k j => match s.obj r with
                      | some o => atP s r p fun es d _ => optP es[k]? fun e => match rowE s o.bx d r p k (cellsV (s.opd x)) j (C.hz t) e (fun v => v) [] s.nx with
                        | some (e', kf, dr, c) => forceSt (rowS s r p k e' kf dr c) fun s' => putP s' dst .dead K
                        | none => False
                      | none => False
                    | _ => False
                  | false => False
            | none => False
          | _ => False
        | false => False
      | none => False
    | false => False
def makeP (C : Cx) (s : St) (t : TypeId) (l c : V) (dst : Option Nat) (K : St → Prop) : Prop :=
  match C.ty t with
  | some ⟨_, .slice e, _, _⟩ => match C.ty e with
    | some ei => match l with
      | .sc (.int _ l) => match c with
        | .sc (.int _ c) => match Nat.beq ei.zero.length ei.size && ei.zero.all Value.oneCell' with
          | true => chkP (decide (0 ≤ l) && (decide (l ≤ c) && decide ((ei.bytes : Int) * c ≤ 281474976710656)) && decide (c ≤ 9223372036854775807)) (forceN s.nx fun r => forceSt (s.newO ⟨List.replicate l.toNat (zeroV (C.hz e) ei.zero), true, ei.size, false⟩) fun s' => putP s' dst (.hdr r []) K)
          | false => False
        | _ => False
      | _ => False
    | none => False
  | _ => False
/-- Rows of values go into a new slice, one behind the other. -/
def rowsP (s : St) (r n : Nat) (d : Bool) (hs : List Nat) : List Operand → Nat → (St → Prop) → Prop
  | [], _, K => K s
  | x :: l, i, K => match tellable (s.opd x) with
    | true => match Nat.beq (cellsV (s.opd x)).length n with
      | true => match rowE s false d r [] i (cellsV (s.opd x)) 0 hs (List.replicate n .dead) (fun v => v) [] s.nx with
        | some (e', kf, dr, c) => forceSt (rowS s r [] i e' kf dr c) fun s' => rowsP s' r n d hs l (i + 1) K
        | none => False
      | false => False
    | false => False
def normAll (d : Bool) : List Operand → St → St
  | [], s => s
  | x :: l, s => forceSt (norm (fun s => s.opd x) d s) fun s' => normAll d l s'
def inOrder : Nat → List (Nat × Operand) → Bool
  | _, [] => true
  | i, x :: l => match Nat.beq x.1 i with
    | true => inOrder (i + 1) l
    | false => false
def forceOb {α : Type} (s : St) (r : Nat) (K : St → α) : α :=
  match s.obj r with
  | some ⟨es, d, n, b⟩ => forceR es fun es' => match s with
    | ⟨tm, ob, nx, fz, ng⟩ => K ⟨tm, setO r (some ⟨es', d, n, b⟩) ob, nx, fz, ng⟩
  | none => K s
def buildSliceP (C : Cx) (s : St) (t : TypeId) (len : Nat) (parts : List (Nat × Operand)) (dst : Option Nat) (K : St → Prop) : Prop :=
  match C.ty t with
  | some ⟨_, .slice e, _, _⟩ => match C.ty e with
    | some ei => match inOrder 0 parts with
      | true => match Nat.beq parts.length len with
        | true => match Nat.ble (len * ei.size) 16777216 with
          | true => match Nat.beq ei.zero.length ei.size && ei.zero.all Value.oneCell' with
            | true => forceSt (normAll (dpOf C e) (parts.map (·.2)) s) fun s => forceN s.nx fun r => match allB (fun x => match tellable (s.opd x) with
                | true => Nat.beq (cellsV (s.opd x)).length ei.size
                | false => false) (parts.map (·.2)) with
              | false => False
              | true => rowsP (s.newO ⟨List.replicate len (List.replicate ei.size .dead), dpOf C e, ei.size, false⟩) r ei.size (dpOf C e) (C.hz e) (parts.map (·.2)) 0 fun s' => forceOb s' r fun s' => forceSt s' fun s' => putP s' dst (.hdr r []) K
            | false => False
          | false => False
        | false => False
      | false => False
    | none => False
  | _ => False

-- append
/-- The root that is appended to. -/
def appRoot (C : Cx) (s : St) (e n : Nat) (x : Operand) (K : St → Nat → Prop) : Prop :=
  forceSt (normD (fun s => s.opd x) 1 0 s) fun s => match s.opd x with
    | .sc (.slice none 0 0) => forceN s.nx fun r => K (s.newO ⟨[], dpOf C e, n, false⟩) r
    | .hdr r [] => K s r
    | _ => False
/-- A cell that can be told whole; own: with what it owns. -/
def OneV (d own : Bool) : V → Prop
  | .sc x => x.oneCell' = true
  | .sl _ _ => own = true ∨ d = false
  | .own _ _ _ => own = true
  | _ => False
def OneEs (d own : Bool) (es : List (List V)) : Prop := ∀ e ∈ es, ∀ v ∈ e, OneV d own v
def strRows (b : ByteArray) : List (List V) := b.data.toList.map byteRow
/-- What is appended: rows, or a root that is no more. -/
def srcP (C : Cx) (s : St) (ty : TypeId) (d : Bool) (n : Nat) (r : Nat) (u : TypeId) (v : V) (K : List (List V) → Option Nat → Prop) : Prop :=
  match C.ty u with
  | some ⟨_, .str, _, _⟩ => match v with
    | .sc (.string b) => match Nat.beq n 1 with
      | true => K (strRows b) none
      | false => False
    | _ => False
  | some ⟨_, .slice _, _, _⟩ => match v with
    | .sc (.slice none 0 0) => K [] none
    | .sh m es => match Nat.beq m n with
      | true => OneEs d false es ∧ K es none
      | false => False
    | .part q p o l => atP s q p fun es d' m => match Nat.beq m n && (d' == d) with
      | true => OneEs d false ((es.drop o).take l) ∧ K ((es.drop o).take l) none
      | false => False
    | .hdr q p => match p with
      | [] => match allZ (C.hz ty) with
        | true => atP s q [] fun es d' m => match Nat.beq m n && (d' == d) with
          | true => OneEs d false es ∧ K es none
          | false => False
        | false => match s.obj q with
          | some o => match Nat.beq o.sz n && ((o.deep == d) && (!o.bx && (Nat.ble s.ng q && !Nat.beq q r))) with
            | true => OneEs d true o.es ∧ K o.es (some q)
            | false => False
          | none => False
      | x :: p => atP s q (x :: p) fun es d' m => match Nat.beq m n && (d' == d) with
        | true => OneEs d false es ∧ K es none
        | false => False
    | _ => False
  | _ => False
def appendP (C : Cx) (s : St) (t u : TypeId) (x y : Operand) (dst : Option Nat) (K : St → Prop) : Prop :=
  match C.ty t with
  | some ⟨_, .slice e, _, _⟩ => match C.ty e with
    | some ei => match Nat.beq ei.zero.length ei.size && (ei.zero.all Value.oneCell' && Nat.blt 0 ei.bytes) with
      | true => appRoot C s e ei.size x fun s r => match s.obj r with
        | some o => match Nat.beq o.sz ei.size && (!o.bx && Nat.ble s.ng r) with
          | true => srcP C s e o.deep ei.size r u (s.opd y) fun rows q => chkP (decide ((o.es.length + rows.length) * ei.bytes ≤ 140737488355328)) (match q with
            | none => forceSt (s.apS r o rows) fun s' => putP s' dst (.hdr r []) K
            | some q => forceSt ((s.apS r o rows).abS r q o (o.es ++ rows)) fun s' => putP s' dst (.hdr r []) K)
          | false => False
        | none => False
      | false => False
    | none => False
  | _ => False

-- calls
def argV (f : Operand) (xs : List Operand) (k : Nat) (s : St) : V :=
  match s.opd f with
  | .fn _ caps => ((xs.map s.opd) ++ caps).getD k .dead
  | _ => .dead
def frzAllR : List Nat → St → St
  | [], s => s
  | q :: l, s => frzAllR l (frzR s q)
/-- The state before a call: what is given stands alone, what is only read is so. -/
def prepS (f : Operand) (xs : List Operand) : List Nat → Nat → St → St
  | [], _, s => s
  | 0 :: ms, k, s => prepS f xs ms (k + 1) s
  | 1 :: ms, k, s => prepS f xs ms (k + 1) (normD (argV f xs k) (cellsV (argV f xs k s)).length 0 s)
  | _ :: ms, k, s => match normD (argV f xs k) (cellsV (argV f xs k s)).length 0 s with
    | s' => prepS f xs ms (k + 1) (frzAllR (roots2 (argV f xs k s')) s')
/-- A slice that is nil, told as a slice. -/
def nilV : List Nat → V → V
  | hs, .sc (.slice none 0 0) => match hs with
    | (n + 1) :: _ => .sh (n + 1) []
    | _ => .sc (.slice none 0 0)
  | _, v => v
def nilVs : List Nat → List V → List V
  | _, [] => []
  | hs, v :: vs => nilV hs v :: nilVs hs.tail vs
def nilA (hs : List Nat) : V → V
  | .agg vs => .agg (nilVs hs vs)
  | v => nilV hs v
def modeAt (ms : List Nat) (k : Nat) : Nat := ms.getD k 0
/-- The roots that are given. -/
def givenR (ms : List Nat) : Nat → List V → List Nat → List Nat
  | _, [], G => G
  | k, v :: vs, G => match modeAt ms k with
    | 1 => givenR ms (k + 1) vs (addR 0 (roots2 v) G)
    | _ => givenR ms (k + 1) vs G
def lentR (ms : List Nat) : Nat → List V → List Nat → List Nat
  | _, [], L => L
  | k, v :: vs, L => match modeAt ms k with
    | 1 => lentR ms (k + 1) vs L
    | _ => lentR ms (k + 1) vs (addR 0 (roots2 v) L)
def argsL (C : Cx) (s : St) (ms : List Nat) (hs : List (List Nat)) (G : List Nat) : Nat → List V → Option (List V)
  | _, [] => some []
  | k, v :: vs => match modeAt ms k with
    | 1 => match argsL C s ms hs G (k + 1) vs with
      | some l => some (ren2 (fun r => posOf r G 0) v :: l)
      | none => none
    | _ => match lend2 s v with
      | some v' => match argsL C s ms hs G (k + 1) vs with
        | some l => some (nilA (hs.getD k []) v' :: l)
        | none => none
      | none => none
def obsOf (s : St) : List Nat → Option (List Ob)
  | [] => some []
  | r :: G => match s.obj r with
    | some o => match obsOf s G with
      | some l => some (o :: l)
      | none => none
    | none => none
def meets : List Nat → List Nat → Bool
  | [], _ => false
  | r :: l, G => match posOf r G 0 with
    | some _ => true
    | none => meets l G
/-- What a call leaves to be shown, and what follows it. -/
def callP (C : Cx) (s : St) (g : Nat) (vals : List V) (ms : List Nat) (dst : Option Nat) (K : St → Prop) (after : St → V → (St → V → Prop) → Prop) : Prop :=
  forceL vals fun vals => match givenR ms 0 vals [] with
    | G => match lentR ms 0 vals [] with
      | Ld => match distinct 0 G && !meets Ld G with
        | false => False
        | true => match obsOf s G with
          | some obs => match argsL C s ms (C.ph g) G 0 vals with
            | some vs => forceL vs fun vs => forceL (vals.map fun _ => V.dead) fun _ => Fn C.P C.gl g vs obs fun rs os => (match Ld with
                | [] => True
                | _ => G = [] ∧ ClR rs) ∧ forceN (s.nx + G.length) fun n0 => match open3 n0 rs with
                  | (v, l, c) => forceSt (s.caS G os l c) fun s' => after s' v fun s' v => putP s' dst v K
            | none => False
          | none => False
def splitL : Path → Option (Path × (Nat × Nat))
  | [] => none
  | x :: [] => some ([], x)
  | x :: p => match splitL p with
    | some (q, y) => some (x :: q, y)
    | none => none
/-- The first argument that is given out of a slice's element. -/
def nested (s : St) (ms : List Nat) : Nat → List V → Option (Nat × Nat × Path × Nat × Nat)
  | _, [] => none
  | k, v :: vs => match modeAt ms k with
    | 1 => match v with
      | .hdr r p => match splitL p with
        | some (p0, (i, j)) => some (k, r, p0, i, j)
        | none => nested s ms (k + 1) vs
      | _ => nested s ms (k + 1) vs
    | _ => nested s ms (k + 1) vs
def evCallP (C : Cx) (s : St) (f : Operand) (xs : List Operand) (dst : Option Nat) (K : St → Prop) : Prop :=
  match s.opd f with
  | .fn g _ => match C.fs g with
    | true => match C.md g with
      | ms => forceSt (prepS f xs (C.mp g) 0 s) fun s => match s.opd f with
        | .fn g' caps => match Nat.beq g' g with
          | true => match nested s ms 0 (xs.map s.opd ++ caps) with
            | none => callP C s g (xs.map s.opd ++ caps) ms dst K (fun s' v K' => K' s' v)
            | some (k, r, p, i, j) => atP s r p fun es d _ => optP es[i]? fun e => match e[j]? with
              | some u => match ownIn d u with
                | some o => forceN s.nx fun q => forceSt (((s.clS u r p j).putO r p fun es => es.set i (e.set j .dead)).newO o) fun s' => match s'.opd f with
                  | .fn g' caps => match Nat.beq g' g with
                    | true => match meets [r] (givenR ms 0 ((xs.map s'.opd ++ caps).set k (.hdr q [])) []) with
                     | true => False
                     | false => callP C s' g ((xs.map s'.opd ++ caps).set k (.hdr q [])) ms dst K fun s'' v K' => atP s'' r p fun es d _ => optP es[i]? fun e => match e[j]? with
                      | some .dead => match s''.obj q with
                        | some oq => match s''.obj r with
                          | some o => match formOf o.bx p d oq with
                            | some X => forceSt ((s''.moS q r (p ++ [(i, j)])).putO r p fun es => es.set i (e.set j X)) fun s3 => K' s3 (mov q r (p ++ [(i, j)]) v)
                            | none => False
                          | none => False
                        | none => False
                      | _ => False
                    | false => False
                  | _ => False
                | none => False
              | none => False
          | false => False
        | _ => False
    | false => False
  | _ => False

def opP (C : Cx) (s : St) (o : Oper) (K : St → Prop) : Prop :=
  match o.op with
  | .box t x => boxP C s t x o.dst K
  | .alloc t => allocP C s t o.dst K
  | .store t a x => storeP C s t a x o.dst K
  | .makeSlice t l c => makeP C s t (s.opd l) (s.opd c) o.dst K
  | .buildSlice t len ps => buildSliceP C s t len ps.toList o.dst K
  | .call c => match c.callee with
    | .value f => evCallP C s f c.args.toList o.dst K
    | .builtin .append => match c.args.toList, c.argTypes.toList with
      | [x, y], [t, u] => appendP C s t u x y o.dst K
      | _, _ => False
    | _ => pureP C s o fun v => putP s o.dst v K
  | _ => pureP C s o fun v => putP s o.dst v K

-- regions
def dstAt (ops : List Oper) (i : Nat) : Option Nat :=
  match ops[i]? with
  | some o => o.dst
  | none => none
/-- An operation that waits for an answer. -/
def guardP (ops : List Oper) (s : St) (o : Oper) (A B : St → Prop) : Prop :=
  match o.guard with
  | none => A s
  | some (j, want) => match dstAt ops j with
    | some t => match s.get t with
      | .sc x => match x with
        | .bool b => ifP b
          (match want with
            | true => putP s (some t) (.sc (.bool true)) A
            | false => putP s (some t) (.sc (.bool true)) B)
          (match want with
            | true => putP s (some t) (.sc (.bool false)) B
            | false => putP s (some t) (.sc (.bool false)) A)
        | .tuple _ => B s
        | _ => False
      | _ => False
    | none => False
def opsP (C : Cx) (ops : List Oper) : List Oper → St → (St → Prop) → Prop
  | [], s, K => K s
  | o :: l, s, K => guardP ops s o (fun s => opP C s o fun s' => opsP C ops l s' K) (fun s => putP s o.dst (.sc undef) fun s' => opsP C ops l s' K)

structure Ks where
  normal : St → Prop
  exit : Nat → St → Prop
  ret : St → Prop
def firstId : Code → Nat
  | .region id _ _ => id
  | .seq a _ => firstId a
  | .block _ b => firstId b
  | .loop b => firstId b
  | _ => 0
/-- The state at a loop's head. -/
def canon (C : Cx) (id : Nat) (s : St) : St := s.seS (C.keep id) (rootsOf s (C.keep id) [])
def forceNs {α : Type} : List Nat → (List Nat → α) → α
  | [], K => K []
  | n :: l, K => forceN n fun n' => forceNs l fun l' => K (n' :: l')
theorem forceNs_eq {α : Type} : ∀ (l : List Nat) (K : List Nat → α), forceNs l K = K l
  | [], K => rfl
  | n :: l, K => by unfold forceNs; rw [forceN_eq, forceNs_eq l]
def rootsK {α : Type} (s : St) : List Nat → List Nat → (List Nat → α) → α
  | [], L, K => K L
  | t :: l, L, K => forceNs (addR s.ng (roots3 (s.get t)) L) fun L' => rootsK s l L' K
theorem rootsK_eq {α : Type} (s : St) : ∀ (l L : List Nat) (K : List Nat → α), rootsK s l L K = K (rootsOf s l L)
  | [], L, K => rfl
  | t :: l, L, K => by unfold rootsK rootsOf; rw [forceNs_eq, rootsK_eq s l]
/-- Only these temporaries, and what they reach, numbered anew. -/
def canonK {α : Type} (l : List Nat) (s : St) (K : St → α) : α := forceSt (s.res l) fun s => rootsK s l [] fun L => forceSt (s.seS l L) K
theorem canonK_eq {α : Type} (l : List Nat) (s : St) (K : St → α) : canonK l s K = K ((s.res l).seS l (rootsOf (s.res l) l [])) := by
  unfold canonK; rw [forceSt_eq, rootsK_eq, forceSt_eq]
/-- What is so at a loop's head for what follows to be so. -/
structure LoopP (step : St → (St → Prop) → Prop) (s : St) : Prop where
  all : ∀ X : St → Prop, (∀ t, step t X → X t) → X s

/-- What a part comes to, and what follows. -/
structure RegP (f : (St → Prop) → Prop) (K : St → Prop) : Prop where
  ex : ∃ I : St → Prop, f I ∧ ∀ t, I t → K t
theorem regP_of {f : (St → Prop) → Prop} {K : St → Prop} (t : St) (h : f fun s => s = t) (k : K t) : RegP f K := ⟨⟨_, h, fun s hs => hs ▸ k⟩⟩
theorem regP_by {f : (St → Prop) → Prop} {K : St → Prop} (I : St → Prop) (h : f I) (k : ∀ t, I t → K t) : RegP f K := ⟨⟨I, h, k⟩⟩
theorem regP_go {f : (St → Prop) → Prop} {K : St → Prop} (h : f K) : RegP f K := ⟨⟨K, h, fun _ h => h⟩⟩
-- what follows, told by what it has (each thing once)
def seqKs (f : Ks → St → Prop) (K : Ks) : Ks := ⟨fun s => f K s, K.exit, K.ret⟩
/-- Slices that are nil become objects, where that is asked for. -/
def nilT : List (Nat × Nat) → St → St
  | [], s => s
  | x :: l, s => match x with
    | (t, n) => match s.get t with
      | .sc (.slice none 0 0) => nilT l (match s.newO ⟨[], true, n, false⟩ with
        | ⟨tm, ob, nx, fz, ng⟩ => ⟨(t, .hdr s.nx []) :: tm, ob, nx, fz, ng⟩)
      | _ => nilT l s
def joinKs (nl : List (Nat × Nat)) (l : List Nat) (I : St → Prop) (K : Ks) : Ks := ⟨fun s => canonK l (nilT nl s) I, K.exit, K.ret⟩
def blockKs (id : Nat) (K : Ks) : Ks := ⟨K.normal, fun i s => match Nat.beq i id with
  | true => K.normal s
  | false => K.exit i s, K.ret⟩
abbrev Cont := Ks → St → Prop
def deadF : Cont := fun _ _ => False
def skipF : Cont := fun K s => K.normal s
def regionF (C : Cx) (evD : Nat → List Oper → St → (St → Prop) → Prop) (id : Nat) (ops : Array Oper) (draw : Bool) : Cont := fun K s => match draw with
  | false => forceSt (s.res (C.keep id)) fun s => opsP C ops.toList ops.toList s K.normal
  | true => forceSt (s.res (C.keep id)) fun s => evD id ops.toList s K.normal
def seqF (C : Cx) (id : Nat) (a b : Cont) : Cont := fun K s => match C.jn id with
  | false => a (seqKs b K) s
  | true => RegP (fun I => a (joinKs (C.nl id) (C.keep id) I K) s) (b K)
def condF (c : Operand) (t e : Cont) : Cont := fun K s => match s.opd c with
  | .sc (.bool b) => ifP b (t K s) (e K s)
  | _ => False
def blockF (id : Nat) (b : Cont) : Cont := fun K s => b (blockKs id K) s
def loopF (C : Cx) (id : Nat) (b : Cont) : Cont := fun K s => canonK (C.keep id) (nilT (C.nl id) s) fun s => LoopP (fun s' next => b (joinKs (C.nl id) (C.keep id) next K) s') s
/-- Code, by its recursor: what the kernel finds is what is written. -/
noncomputable def codeP (C : Cx) (evD : Nat → List Oper → St → (St → Prop) → Prop) (c : Code) : Cont :=
  Code.rec (motive := fun _ => Cont) skipF (fun id ops draw => regionF C evD id ops draw) (fun _ b ia ib => seqF C (firstId b) ia ib) (fun c _ _ it ie => condF c it ie) (fun id _ ib => blockF id ib) (fun b ib => loopF C (firstId b) ib)
    (fun _ _ _ _ _ _ => deadF) (fun id K s => K.exit id s) (fun _ _ => deadF) (fun _ => skipF) (fun _ => deadF) (fun K s => K.ret s) (fun _ => deadF) c

-- the end of a function
def resP (C : Cx) (s : St) : List ResultVar → (List V → Prop) → Prop
  | [], K => K []
  | .tmp t :: l, K => resP C s l fun vs => K (s.get t :: vs)
  | .cell a t :: l, K => loadP C s t (s.get a) fun v => resP C s l fun vs => K (v :: vs)
/-- Slices that are nil become objects. -/
def nilO : List Nat → List V → St → List V × St
  | _, [], s => ([], s)
  | hs, v :: vs, s => match v with
    | .sc (.slice none 0 0) => match hs with
      | (n + 1) :: _ => match nilO hs.tail vs (s.newO ⟨[], true, n + 1, false⟩) with
        | (l, s') => (.hdr s.nx [] :: l, s')
      | _ => match nilO hs.tail vs s with
        | (l, s') => (v :: l, s')
    | _ => match nilO hs.tail vs s with
      | (l, s') => (v :: l, s')
def nilR : List (List Nat) → List V → St → List V × St
  | _, [], s => ([], s)
  | hs, v :: vs, s => match v with
    | .agg us => match nilO (hs.headD []) us s with
      | (us', s1) => match nilR hs.tail vs s1 with
        | (l, s') => (.agg us' :: l, s')
    | _ => match nilO (hs.headD []) [v] s with
      | (us', s1) => match nilR hs.tail vs s1 with
        | (l, s') => (us' ++ l, s')
def retP (C : Cx) (res : List ResultVar) (Q : List V → List Ob → Prop) (s : St) : Prop :=
  resP C s res fun vs => match nilR C.rh vs s with
    | (vs, s) => forceSt s fun s => match apartL (vs.flatMap places2) with
      | true => match rootsOk s.ng (vs.flatMap places2) with
        | true => match takeObs s 0 s.ng with
          | some os => match lendL (close2 s) vs with
            | some rs => Q rs os
            | none => False
          | none => False
        | false => False
      | false => False
noncomputable def fnP (C : Cx) (evD : Nat → List Oper → St → (St → Prop) → Prop) (fn : Func) (args : List V) (obs : List Ob) (Q : List V → List Ob → Prop) : Prop :=
  match fn.body with
  | some c => match Nat.ble args.length fn.ntmps with
    | true => codeP C evD c ⟨retP C fn.results.toList Q, fun _ _ => False, retP C fn.results.toList Q⟩ (startSt args obs fn.ntmps)
    | false => False
  | none => False
end Ev
namespace Ev
open Go Go.RowKit
set_option linter.unusedVariables false
set_option linter.unusedSimpArgs false
section
variable {β : Base} {s : St} {a : Act} {w : World} {g : Gh} {pm : Nat → Nat → Option (Nat × Path)} {C : Cx}

theorem c_ty (C : Cx) (t : TypeId) : C.c.ty t = C.ty t := rfl
theorem loadP_ev {t : TypeId} {u : V} {K : V → Prop} (h : loadP C s t u K) : ∃ v, evLoad C.c s t u = some v ∧ K v := by
  unfold loadP at h
  unfold evLoad
  rw [c_ty]
  cases ht : C.ty t with
  | none => rw [ht] at h; exact h.elim
  | some i =>
    rw [ht] at h
    dsimp only at h ⊢
    cases u with
    | shp cs =>
      dsimp only at h ⊢
      obtain ⟨l, e1, h⟩ := optP_some h
      obtain ⟨v, e2, h⟩ := optP_some h
      exact ⟨v, by rw [e1]; exact e2, h⟩
    | bxr cs =>
      dsimp only at h ⊢
      obtain ⟨l, e1, h⟩ := optP_some h
      obtain ⟨v, e2, h⟩ := optP_some h
      exact ⟨v, by rw [e1]; exact e2, h⟩
    | ptr r p k j =>
      dsimp only at h ⊢
      cases ho : s.obj r with
      | none => rw [ho] at h; exact h.elim
      | some o =>
        rw [ho] at h
        dsimp only at h
        cases hb : isBox o.bx p with
        | false =>
          rw [hb] at h
          dsimp only at h
          obtain ⟨es, d, n, e0, h⟩ := atP_some h
          obtain ⟨cs, e1, h⟩ := optP_some h
          obtain ⟨l, e2, h⟩ := optP_some h
          obtain ⟨v, e3, h⟩ := optP_some h
          exact ⟨v, by rw [e0]; dsimp only; rw [e1]; dsimp only; rw [e2]; exact e3, h⟩
        | true =>
          rw [hb] at h
          dsimp only at h
          obtain ⟨es, d, n, b⟩ := o
          dsimp only at h hb
          have hp : p = [] := by
            unfold isBox at hb
            cases b <;> cases p <;> first | rfl | cases hb
          subst hp
          have hat : s.at r [] = some (es, d, n) := by unfold St.at; rw [ho]; rfl
          split at h
          case h_2 => exact h.elim
          rename_i row
          split at h
          case h_2 => exact h.elim
          rename_i hk
          have hk : k = 0 := Nat.eq_of_beq_eq_true hk
          subst hk
          obtain ⟨l, e2, h⟩ := optP_some h
          obtain ⟨v, e3, h⟩ := optP_some h
          exact ⟨v, by rw [hat]; dsimp only [List.getElem?_cons_zero]; rw [e2]; exact e3, h⟩
    | _ => exact h.elim

theorem idxP_ev {t : TypeId} {x ix : V} {K : V → Prop} (h : idxP C s t x ix K) : ∃ v, evIndexAddr C.c s t x ix = some v ∧ K v := by
  unfold idxP at h
  unfold evIndexAddr
  rw [c_ty]
  split at h
  case h_2 => exact h.elim
  rename_i _ sz e zz by_ ht
  rw [ht]
  dsimp only
  rw [c_ty]
  split at h
  case h_2 => exact h.elim
  rename_i ei he
  rw [he]
  dsimp only
  split at h
  case h_2 => exact h.elim
  rename_i kk i
  dsimp only
  split at h
  case h_4 => exact h.elim
  · rename_i n es
    split at h
    case h_2 => exact h.elim
    rename_i hn
    obtain ⟨h0, h⟩ := chkP_some h
    obtain ⟨cs, e1, h⟩ := optP_some h
    exact ⟨_, by rw [h0]; dsimp only; rw [hn]; dsimp only; rw [e1], h⟩
  · rename_i r p
    obtain ⟨es, d, n, e0, h⟩ := atP_some h
    split at h
    case h_2 => exact h.elim
    rename_i hn
    obtain ⟨h0, h⟩ := chkP_some h
    obtain ⟨cs, e1, h⟩ := optP_some h
    exact ⟨_, by rw [h0]; dsimp only; rw [e0]; dsimp only; rw [hn]; dsimp only; rw [e1], h⟩
  · rename_i r p o len
    obtain ⟨es, d, n, e0, h⟩ := atP_some h
    split at h
    case h_2 => exact h.elim
    rename_i hn
    obtain ⟨h0, h⟩ := chkP_some h
    obtain ⟨h1, h⟩ := chkP_some h
    obtain ⟨cs, e1, h⟩ := optP_some h
    exact ⟨_, by rw [h0]; dsimp only; rw [h1]; dsimp only; rw [e0]; dsimp only; rw [hn]; dsimp only; rw [e1], h⟩

theorem strP_ev {t : TypeId} {x ix : V} {K : V → Prop} (h : strP C t x ix K) : ∃ v, evIndex C.c t x ix = some v ∧ K v := by
  unfold strP at h
  unfold evIndex
  rw [c_ty]
  split at h
  case h_2 => exact h.elim
  rename_i ht
  rw [ht]
  dsimp only
  split at h
  case h_2 => exact h.elim
  split at h
  case h_2 => exact h.elim
  obtain ⟨h0, h⟩ := chkP_some h
  obtain ⟨h1, h⟩ := chkP_some h
  exact ⟨_, by dsimp only; rw [h0, h1]; rfl, h⟩

theorem intOf_some {v : V} {i : Int} (h : intOf v = some i) : ∃ k, v = .sc (.int k i) := by
  unfold intOf at h
  split at h
  · obtain rfl := Option.some.inj h; exact ⟨_, rfl⟩
  · cases h
theorem bndP_ev {len : Nat} {lo hi : Option Operand} {K : Nat → Nat → Prop} (h : bndP s len lo hi K) : ∃ l m, evBounds s len lo hi = some (l, m) ∧ K l m := by
  unfold bndP at h
  unfold evBounds
  cases lo with
  | none =>
    cases hi with
    | none => exact ⟨_, _, rfl, h⟩
    | some x =>
      dsimp only at h ⊢
      obtain ⟨i, e, h⟩ := optP_some h
      obtain ⟨k, e⟩ := intOf_some e
      obtain ⟨h0, h⟩ := chkP_some h
      obtain ⟨h1, h⟩ := chkP_some h
      exact ⟨_, _, by rw [e]; dsimp only; rw [h0, h1]; rfl, h⟩
  | some y =>
    dsimp only at h ⊢
    obtain ⟨i, e, h⟩ := optP_some h
    obtain ⟨k, e⟩ := intOf_some e
    cases hi with
    | none =>
      dsimp only at h
      obtain ⟨h0, h⟩ := chkP_some h
      obtain ⟨h1, h⟩ := chkP_some h
      exact ⟨_, _, by rw [e]; dsimp only; rw [h0, h1]; rfl, h⟩
    | some x =>
      dsimp only at h
      obtain ⟨i', e', h⟩ := optP_some h
      obtain ⟨k', e'⟩ := intOf_some e'
      obtain ⟨h0, h⟩ := chkP_some h
      obtain ⟨h1, h⟩ := chkP_some h
      obtain ⟨h2, h⟩ := chkP_some h
      exact ⟨_, _, by rw [e]; dsimp only; rw [e']; dsimp only; rw [h0, h1, h2]; rfl, h⟩
theorem sliceP_ev {t : TypeId} {x : V} {lo hi : Option Operand} {K : V → Prop} (h : sliceP C s t x lo hi K) : ∃ v, evSlice C.c s t x lo hi = some v ∧ K v := by
  unfold sliceP at h
  unfold evSlice
  rw [c_ty]
  split at h
  case h_3 => exact h.elim
  · rename_i ht
    rw [ht]
    dsimp only
    split at h
    case h_2 => exact h.elim
    obtain ⟨l, m, e, h⟩ := bndP_ev h
    exact ⟨_, by dsimp only; rw [e], h⟩
  · rename_i _ sz e zz by_ ht
    rw [ht]
    dsimp only
    rw [c_ty]
    split at h
    case h_2 => exact h.elim
    rename_i ei he
    rw [he]
    dsimp only
    split at h
    case h_4 => exact h.elim
    · split at h
      case h_2 => exact h.elim
      rename_i hn
      obtain ⟨l, m, e, h⟩ := bndP_ev h
      exact ⟨_, by dsimp only; rw [hn]; dsimp only; rw [e], h⟩
    · obtain ⟨es, d, n, e0, h⟩ := atP_some h
      split at h
      case h_2 => exact h.elim
      rename_i hn
      obtain ⟨l, m, e, h⟩ := bndP_ev h
      exact ⟨_, by dsimp only; rw [e0]; dsimp only; rw [hn]; dsimp only; rw [e], h⟩
    · obtain ⟨es, d, n, e0, h⟩ := atP_some h
      split at h
      case h_2 => exact h.elim
      rename_i hn
      obtain ⟨l, m, e, h⟩ := bndP_ev h
      exact ⟨_, by dsimp only; rw [e0]; dsimp only; rw [hn]; dsimp only; rw [e], h⟩

theorem lenP_ev {t : TypeId} {x : V} {K : V → Prop} (h : lenP C s t x K) : (∃ sz z b bs, C.ty t = some ⟨sz, .str, z, b⟩ ∧ x = .sc (.string bs) ∧ K (.sc (.int .i64 bs.size))) ∨ ∃ sz e z b n, C.ty t = some ⟨sz, .slice e, z, b⟩ ∧ evLen s x = some n ∧ K (.sc (.int .i64 n)) := by
  unfold lenP at h
  split at h
  case h_3 => exact h.elim
  · rename_i ht
    split at h
    case h_2 => exact h.elim
    exact .inl ⟨_, _, _, _, ht, rfl, h⟩
  · rename_i sz e z b ht
    refine .inr ⟨sz, e, z, b, ?_⟩
    unfold evLen
    split at h
    case h_5 => exact h.elim
    · exact ⟨0, ht, rfl, h⟩
    · exact ⟨_, ht, rfl, h⟩
    · obtain ⟨es, d, n, e0, h⟩ := atP_some h
      exact ⟨_, ht, by dsimp only; rw [e0], h⟩
    · exact ⟨_, ht, rfl, h⟩
theorem binP_ev {op : BinOp} {t : TypeId} {x y : V} {K : V → Prop} (h : binP C op t x y K) : (∃ v, evBin op x y = some v ∧ K v) ∨ ∃ a b sz z by_, x = .sc (.bool a) ∧ y = .sc (.bool b) ∧ C.ty t = some ⟨sz, .bool, z, by_⟩ ∧ ((op = .eql ∧ K (.sc (.bool (a == b)))) ∨ (op = .neq ∧ K (.sc (.bool (a != b))))) := by
  unfold binP at h
  split at h
  · left
    split at h
    · obtain ⟨h0, h⟩ := chkP_some h
      exact ⟨_, by unfold evBin; dsimp only; rw [h0], h⟩
    · obtain ⟨h0, h⟩ := chkP_some h
      exact ⟨_, by unfold evBin; dsimp only; rw [h0], h⟩
    · split at h
      case h_2 => exact h.elim
      rename_i hk
      obtain ⟨h0, h⟩ := chkP_some h
      refine ⟨_, ?_, h⟩
      unfold evBin; dsimp only; rw [hk]; dsimp only
      have h1 := Bool.not_eq_true' _ |>.mp h0
      rw [h1]
    · split at h
      case h_2 => exact h.elim
      rename_i hk
      obtain ⟨h0, h⟩ := chkP_some h
      refine ⟨_, ?_, h⟩
      unfold evBin; dsimp only; rw [hk]; dsimp only
      have h1 := Bool.not_eq_true' _ |>.mp h0
      rw [h1]
    · exact optP_some h
  · left
    split at h
    · obtain ⟨h0, h⟩ := chkP_some h
      exact ⟨_, by unfold evBin; dsimp only; rw [h0], h⟩
    · exact optP_some h
  · right
    split at h
    case h_2 => exact h.elim
    rename_i ht
    split at h
    · exact ⟨_, _, _, _, _, rfl, rfl, ht, .inl ⟨rfl, h⟩⟩
    · exact ⟨_, _, _, _, _, rfl, rfl, ht, .inr ⟨rfl, h⟩⟩
    · exact h.elim
  · exact h.elim
end
end Ev
namespace Ev
open Go Go.RowKit
set_option linter.unusedVariables false
set_option linter.unusedSimpArgs false

def eqFs (P : Program) : List Field → List Nat → Nat → Bool
  | [], [], _ => true
  | f :: fs, n :: ns, k => (f.name != "_") && (Nat.beq f.offset k && ((match P.underlying f.type with
    | some .bool => Nat.beq n 2
    | some .string => Nat.beq n 3
    | some (.int _) => Nat.beq n 1
    | _ => false) && eqFs P fs ns (k + 1)))
  | _, _, _ => false
/-- Two structs of this type are one if their cells are. -/
def eqTy (P : Program) (t : TypeId) (ns : List Nat) : Bool := !P.eqGuardType P.depth t && (!P.stoodInHeld t && (match P.underlying t with
  | some (.struct fs) => eqFs P fs.toList ns 0
  | _ => false))
/-- What may be called: it has a body. -/
def Callable (P : Program) (f : Nat) : Prop := ∃ fn, P.funcs[f]? = some fn ∧ fn.body.isSome = true ∧ (fn.name == "runtime.NumGoroutine") = false
structure CxOk (C : Cx) : Prop where
  mix : C.P.follows .mixedOrders = true
  fs : ∀ f, C.fs f = true → Callable C.P f
  ty : ∀ t i, C.ty t = some i → tyOf C.P t = some i
  eqt : ∀ t ns, C.eqt t = some ns → eqTy C.P t ns = true
  flds : ∀ t i fds, C.ty t = some i → C.P.underlying t = some (.struct fds) → ∀ fd ∈ fds.toList, (C.P.underlying fd.type).isSome = true ∧ (C.P.info? fd.type).isSome = true

section
variable {β : Base} {s : St} {a : Act} {w : World} {g : Gh} {pm : Nat → Nat → Option (Nat × Path)} {C : Cx}

theorem sameV_ok {P : Program} {ok : Nat → Nat → Prop} {at_ : Nat → Path → Option Nat} {n : Nat} {u v : V} {x y : Value} {b : Bool} (h : sameV n u v = some b) (hu : VR w ok g at_ u x) (hv : VR w ok g at_ v y) {t : TypeId} {d : Nat}
    (ht : (match P.underlying t with
    | some .bool => Nat.beq n 2
    | some .string => Nat.beq n 3
    | some (.int _) => Nat.beq n 1
    | _ => false) = true) :
    ∀ w', (Op.equalIn (d + 1) t x y).run P w' = .ok b w' := fun w' => by
  unfold sameV at h
  split at h
  · obtain rfl := hu.sc_inv
    obtain rfl := hv.sc_inv
    split at h
    case h_2 => cases h
    rename_i hk
    obtain rfl := sameK_eq hk
    obtain rfl := Option.some.inj h
    split at ht
    · cases ht
    · cases ht
    · rename_i k' e; exact run_equalIn_int w' d t _ k' _ _ e
    · cases ht
  · obtain rfl := hu.sc_inv
    obtain rfl := hv.sc_inv
    obtain rfl := Option.some.inj h
    split at ht
    · rename_i e; exact run_equalIn_bool' w' d t _ _ e
    · cases ht
    · cases ht
    · cases ht
  · obtain rfl := hu.sc_inv
    obtain rfl := hv.sc_inv
    obtain rfl := Option.some.inj h
    split at ht
    · cases ht
    · rename_i e; exact run_equalIn_string w' d t _ _ e
    · cases ht
    · cases ht
  · cases h

theorem eqFs_ok {P : Program} {ok : Nat → Nat → Prop} {at_ : Nat → Path → Option Nat} {d : Nat} {X Y : Array Value} (w' : World) : ∀ (fs : List Field) (ns : List Nat) (k : Nat) (us vs : List V) (b : Bool), sameVs ns us vs = some b → eqFs P fs ns k = true →
    (∀ (i : Nat) (v : V), us[i]? = some v → ∃ x, X[k + i]? = some x ∧ VR w ok g at_ v x) → (∀ (i : Nat) (v : V), vs[i]? = some v → ∃ x, Y[k + i]? = some x ∧ VR w ok g at_ v x) → (Op.eqFields (d + 1) X Y fs).run P w' = .ok b w'
  | [], [], k, [], [], b, h, hf, hu, hv => by obtain rfl := Option.some.inj h; rfl
  | f :: fs, [], k, _, _, b, h, hf, hu, hv => by cases hf
  | [], n :: ns, k, _, _, b, h, hf, hu, hv => by cases hf
  | [], [], k, u :: us, _, b, h, hf, hu, hv => by simp [sameVs] at h
  | [], [], k, [], v :: vs, b, h, hf, hu, hv => by simp [sameVs] at h
  | f :: fs, n :: ns, k, [], _, b, h, hf, hu, hv => by simp [sameVs] at h
  | f :: fs, n :: ns, k, u :: us, [], b, h, hf, hu, hv => by simp [sameVs] at h
  | f :: fs, n :: ns, k, u :: us, v :: vs, b, h, hf, hu, hv => by
    unfold sameVs at h
    unfold eqFs at hf
    rw [Bool.and_eq_true, Bool.and_eq_true, Bool.and_eq_true] at hf
    obtain ⟨h1, h2, h3, h4⟩ := hf
    have h2 : f.offset = k := Nat.eq_of_beq_eq_true h2
    split at h
    case h_2 => cases h
    rename_i _ b1 e1
    split at h
    case h_2 => cases h
    rename_i _ b2 e2
    obtain rfl := Option.some.inj h
    obtain ⟨x, hx, hx'⟩ := hu 0 u rfl
    obtain ⟨y, hy, hy'⟩ := hv 0 v rfl
    have ih := eqFs_ok (d := d) w' fs ns (k + 1) us vs b2 e2 h4 (fun i v hi => by have := hu (i + 1) v hi; rw [show k + (i + 1) = k + 1 + i by omega] at this; exact this) (fun i v hi => by have := hv (i + 1) v hi; rw [show k + (i + 1) = k + 1 + i by omega] at this; exact this)
    have hp : ∀ (Z : Array Value) (z : Value), Z[k + 0]? = some z → (part f.type Z f.offset).run P w' = .ok z w' := fun Z z hz => by
      rw [Nat.add_zero] at hz
      have hag : ∃ td, P.underlying f.type = some td ∧ Ev.isAgg P f.type = false := by
        split at h3
        · rename_i e; exact ⟨_, e, by unfold Ev.isAgg; rw [e]⟩
        · rename_i e; exact ⟨_, e, by unfold Ev.isAgg; rw [e]⟩
        · rename_i e; exact ⟨_, e, by unfold Ev.isAgg; rw [e]⟩
        · cases h3
      obtain ⟨td, ht, hag⟩ := hag
      unfold part
      simp [run_isAgg ht, hag, h2, hz]
    unfold Op.eqFields
    have h1 : f.name ≠ "_" := by simpa using h1
    rw [if_pos h1]
    simp only [Sem.run_bind, hp X x hx, hp Y y hy, Result.andThen_ok, sameV_ok e1 hx' hy' h3 w']
    cases b1 with
    | true => simpa using ih
    | false => simp

theorem eqTy_ok {P : Program} {ok : Nat → Nat → Prop} {at_ : Nat → Path → Option Nat} {t : TypeId} {ns : List Nat} (ht : eqTy P t ns = true) {us vs : List V} {b : Bool} (h : sameVs ns us vs = some b) {x y : Value} (hu : VR w ok g at_ (.agg us) x) (hv : VR w ok g at_ (.agg vs) y) (X Y : Operand) :
    ∀ w', (eqGuard .eql t X Y x y).run P w' = .ok () w' ∧ (eqGuard .neq t X Y x y).run P w' = .ok () w' ∧ (binOp .eql t x y).run P w' = .ok (.bool b) w' ∧ (binOp .neq t x y).run P w' = .ok (.bool (!b)) w' := fun w' => by
  unfold eqTy at ht
  rw [Bool.and_eq_true, Bool.and_eq_true] at ht
  obtain ⟨h1, h2, h3⟩ := ht
  have h1 : P.eqGuardType P.depth t = false := by simpa using h1
  have h2 : P.stoodInHeld t = false := by simpa using h2
  cases hu with
  | agg _ xs hxl hx =>
    cases hv with
    | agg _ ys hyl hy =>
      have hd : P.underlying t = some (.struct (P.fieldsOf t)) := by
        unfold Program.fieldsOf
        cases hu : P.underlying t with
        | none => rw [hu] at h3; cases h3
        | some d => rw [hu] at h3; cases d <;> first | rfl | cases h3
      rw [hd] at h3
      dsimp only at h3
      have key : (Op.equalIn 10000 t (.agg xs.toArray) (.agg ys.toArray)).run P w' = .ok b w' := by
        rw [run_equalIn_struct w' 9999 t _ _ hd h2]
        refine eqFs_ok (w := w) (d := 9998) (g := g) (ok := ok) (at_ := at_) w' _ ns 0 us vs b h h3 (fun i v hi => ?_) (fun i v hi => ?_)
        · have hlt : i < us.length := (List.getElem?_eq_some_iff.1 hi).1
          rw [Nat.zero_add]
          exact ⟨xs[i], by simp [hxl, hlt], hx i v _ hi (List.getElem?_eq_getElem (by omega))⟩
        · have hlt : i < vs.length := (List.getElem?_eq_some_iff.1 hi).1
          rw [Nat.zero_add]
          exact ⟨ys[i], by simp [hyl, hlt], hy i v _ hi (List.getElem?_eq_getElem (by omega))⟩
      exact ⟨run_eqGuard_agg w' _ _ _ _ _ _ h1, run_eqGuard_agg w' _ _ _ _ _ _ h1, by rw [run_eql_struct, key]; rfl, by rw [run_neq_struct, key]; rfl⟩

-- bytes
theorem foldl_bytes : ∀ (l : List UInt8) (b : ByteArray), (l.map fun x => (x.toNat : Int)).foldl (fun r n => r.push (UInt8.ofNat n.toNat)) b = ⟨b.data ++ l.toArray⟩
  | [], b => by simp
  | x :: l, b => by
    simp only [List.map_cons, List.foldl_cons]
    rw [foldl_bytes l]
    show ByteArray.mk (b.data.push (UInt8.ofNat (x.toNat : Int).toNat) ++ l.toArray) = _
    have : UInt8.ofNat (x.toNat : Int).toNat = x := by simp
    rw [this]
    congr 1
    apply Array.ext'
    simp
theorem SR.sc_inv {ok : Nat → Nat → Prop} {y c : Value} (h : SR w ok (.sc y) c) : c = y := by
  generalize hv : V.sc y = v at h
  cases h with
  | sc => exact (V.sc.inj hv).symm
  | any _ _ h => subst hv; cases h
  | _ => cases hv
theorem bytes_sr {P : Program} {ok : Nat → Nat → Prop} {l : List UInt8} {n : Nat} {c : Value} (h : SR w ok (.sl n (l.map byteRow)) c) : (Conv.bytesToString c).run P w = .ok (.string ⟨l.toArray⟩) w := by
  generalize hes : l.map byteRow = es at h
  generalize hv : V.sl n es = v at h
  cases h with
  | nil n A cap =>
    obtain ⟨rfl, rfl⟩ := V.sl.inj hv
    have hl : l = [] := by simpa using hes
    subst hl
    cases A with
    | none => simp [Conv.bytesToString]; rfl
    | some a =>
      rw [run_bytesToString w a 0 cap [] (by exact run_loadCells_list w a [] (fun j v h => by simp at h))]
      rfl
  | sl sz es' b o cap vals hs h1 h2 hc =>
    obtain ⟨rfl, rfl⟩ := V.sl.inj hv
    subst hes
    have hlen : (l.map byteRow).length = l.length := by simp
    have hcell : ∀ i (x : UInt8), l[i]? = some x → w.cell? ⟨b, o + i, none⟩ = some (.int .u8 x.toNat) := fun i x hx => by
      have he : (l.map byteRow)[i]? = some (byteRow x) := by simp [hx]
      have hsz : n = 1 := (hs i _ he).symm
      obtain ⟨_, c1⟩ := h1 i 0 _ _ he rfl
      have c2 := h2 i 0 _ _ he rfl
      rw [hsz, Nat.mul_one, Nat.add_zero] at c1
      rw [c1]
      rw [SR.sc_inv c2]
    have := run_bytesToString (P := P) w ⟨b, o, none⟩ (l.map byteRow).length cap (l.map fun x => (x.toNat : Int)) (by
      have := run_loadCells_list (P := P) w ⟨b, o, none⟩ ((l.map fun x => (x.toNat : Int)).map (Value.int .u8)) (fun j v hv => by
        rw [Addr.add_off]
        simp only [List.map_map, List.getElem?_map] at hv
        cases hx : l[j]? with
        | none => rw [hx] at hv; cases hv
        | some x => rw [hx] at hv; obtain rfl := Option.some.inj hv; exact hcell j x hx)
      simp only [List.length_map] at this ⊢
      exact this)
    rw [this, foldl_bytes]
    simp
  | any _ _ h => subst hv; cases h
  | _ => cases hv
theorem lentAll (r : List Nat) : Lent β pm (fun _ _ => True) r := ⟨fun _ _ _ => trivial, fun _ _ _ _ _ _ => trivial⟩
theorem bytesP_ok {P : Program} (h : R β s a w g pm) {u : V} {x : Value} {K : V → Prop} (hx : VR w (okc β pm) g s.len u x) (hk : bytesP s u K) : ∃ b, (∀ w', Kp w w' → (Conv.bytesToString x).run P w' = .ok (.string b) w') ∧ K (.sc (.string b)) := by
  unfold bytesP at hk
  have lend : ∀ es, lend1 s u = some (.sh 1 es) → ∀ w', Kp w w' → SR w' (fun _ _ => True) (.sl 1 es) x := fun es he w' hkp => by
    have := lend1_ok h (lentAll _) hx he
    cases this with
    | sh n es c h => exact h.mono (fun b o c h1 h2 => ⟨h1, hkp _ _ _ h2⟩)
  split at hk
  · obtain rfl := hx.sc_inv
    exact ⟨_, fun w' _ => by simp [Conv.bytesToString], hk⟩
  · rename_i es
    obtain ⟨l, rfl, hk⟩ := hk
    exact ⟨_, fun w' hkp => bytes_sr (lend _ rfl w' hkp), hk⟩
  · obtain ⟨es, d, n, e0, hk⟩ := atP_some hk
    split at hk
    case h_2 => exact hk.elim
    rename_i hn
    obtain rfl : n = 1 := Nat.eq_of_beq_eq_true hn
    obtain ⟨l, rfl, hk⟩ := hk
    exact ⟨_, fun w' hkp => bytes_sr (lend _ (by unfold lend1; dsimp only; rw [e0]) w' hkp), hk⟩
  · obtain ⟨es, d, n, e0, hk⟩ := atP_some hk
    split at hk
    case h_2 => exact hk.elim
    rename_i hn
    obtain rfl : n = 1 := Nat.eq_of_beq_eq_true hn
    obtain ⟨l, hl, hk⟩ := hk
    exact ⟨_, fun w' hkp => bytes_sr (lend _ (by unfold lend1; dsimp only; rw [e0]; dsimp only; rw [hl]) w' hkp), hk⟩
  · exact hk.elim
end
end Ev
namespace Ev
open Go Go.RowKit
set_option linter.unusedVariables false
set_option linter.unusedSimpArgs false
section
variable {β : Base} {s : St} {a : Act} {w : World} {g : Gh} {pm : Nat → Nat → Option (Nat × Path)} {C : Cx}

/-- Values, told one by one. -/
def VRs (w : World) (ok : Nat → Nat → Prop) (g : Gh) (at_ : Nat → Path → Option Nat) (vs : List V) (xs : List Value) : Prop :=
  xs.length = vs.length ∧ ∀ (k : Nat) (v : V) (x : Value), vs[k]? = some v → xs[k]? = some x → VR w ok g at_ v x
theorem VRs.set {ok : Nat → Nat → Prop} {at_ : Nat → Path → Option Nat} {vs : List V} {xs : List Value} (h : VRs w ok g at_ vs xs) (o : Nat) {v : V} {x : Value} (hv : VR w ok g at_ v x) : VRs w ok g at_ (vs.set o v) (xs.set o x) := by
  refine ⟨by simp [h.1], fun k u y hu hy => ?_⟩
  rw [List.getElem?_set] at hu hy
  by_cases e : o = k
  · subst e
    rw [if_pos rfl] at hu hy
    split at hu
    · split at hy
      · obtain rfl := Option.some.inj hu
        obtain rfl := Option.some.inj hy
        exact hv
      · cases hy
    · cases hu
  · rw [if_neg e] at hu hy
    exact h.2 k u y hu hy
theorem putCells_ok {ok : Nat → Nat → Prop} {at_ : Nat → Path → Option Nat} (o : Nat) : ∀ (cs : List V) (ys : List Value) (k : Nat) (vs : List V) (xs : Array Value), VRs w ok g at_ vs xs.toList → VRs w ok g at_ cs ys →
    VRs w ok g at_ (putCells vs (o + k) cs) ((ys.zipIdx k).foldl (fun a p => a.setIfInBounds (o + p.2) p.1) xs).toList
  | [], [], k, vs, xs, h, hc => h
  | [], y :: ys, k, vs, xs, h, hc => by have := hc.1; simp at this
  | c :: cs, [], k, vs, xs, h, hc => by have := hc.1; simp at this
  | c :: cs, y :: ys, k, vs, xs, h, hc => by
    rw [List.zipIdx_cons, List.foldl_cons]
    unfold putCells
    have h1 : VR w ok g at_ c y := hc.2 0 c y rfl rfl
    have h2 := h.set (o + k) h1
    have := putCells_ok o cs ys (k + 1) (vs.set (o + k) c) (xs.setIfInBounds (o + k) y) (by rw [Array.toList_setIfInBounds]; exact h2) ⟨by have := hc.1; simpa using this, fun i v x hv hx => hc.2 (i + 1) v x hv hx⟩
    rw [show o + (k + 1) = o + k + 1 by omega] at this
    exact this
theorem putCells_length : ∀ (cs : List V) (o : Nat) (vs : List V), (putCells vs o cs).length = vs.length
  | [], _, _ => rfl
  | c :: cs, o, vs => by unfold putCells; rw [putCells_length cs]; simp
theorem fill_ok (h : R β s a w g pm) {fs : List (Nat × Nat × Bool)} {place : Nat → Option (Nat × Nat)} (hpl : ∀ (f o n : Nat) (ag : Bool), fs[f]? = some (o, n, ag) → place f = some (o, n)) : ∀ (l : List (Nat × Operand)) (vs vs' : List V) (xs : Array Value),
    VRs w (okc β pm) g s.len vs xs.toList → buildFs fs s l vs = some vs' → allB (fun x => tellable (s.opd x.2)) l = true → ∃ xs', Instr.fill place xs (l.map fun x => (x.1, a.eval x.2)) = some xs' ∧ VRs w (okc β pm) g s.len vs' xs'.toList
  | [], vs, vs', xs, hv, hb, ht => by obtain rfl := Option.some.inj hb; exact ⟨xs, rfl, hv⟩
  | (f, x) :: l, vs, vs', xs, hv, hb, ht => by
    unfold buildFs at hb
    unfold allB at ht
    split at hb
    case h_2 => cases hb
    rename_i _ o n ag hf
    split at hb
    case h_2 => cases hb
    rename_i hn
    have hn : (cellsV (s.opd x)).length = n := Nat.eq_of_beq_eq_true hn
    split at hb
    case h_2 => cases hb
    rename_i hle
    have hle : o + n ≤ vs.length := Nat.le_of_ble_eq_true hle
    dsimp only at ht
    have ht1 : tellable (s.opd x) = true := by
      cases e : tellable (s.opd x) with
      | true => rfl
      | false => rw [e] at ht; exact ht
    rw [ht1] at ht
    obtain ⟨c1, c2⟩ := tell (h.opd x) ht1
    have hxs : xs.size = vs.length := by have := hv.1; simpa using this
    have h1 := putCells_ok o (cellsV (s.opd x)) (a.eval x).cells.toList 0 vs xs hv ⟨c1, c2⟩
    rw [Nat.add_zero] at h1
    obtain ⟨xs', e, hv'⟩ := fill_ok h hpl l (putCells vs o (cellsV (s.opd x))) vs' _ h1 hb ht
    refine ⟨xs', ?_, hv'⟩
    rw [List.map_cons, Instr.fill]
    rw [hpl f o n ag hf]
    have c1' : (a.eval x).cells.size = n := by rw [← hn, ← c1]; simp
    dsimp only
    rw [if_neg (by rw [c1', hxs]; simp; omega)]
    rw [← e]
    congr 1
    rw [← Array.foldl_toList, Array.toList_zipIdx]

theorem fullF_pos : ∀ {fs : List (Nat × Nat × Bool)}, fullF fs = true → ∀ x ∈ fs, x.2.1 ≠ 0
  | [], h, x, hx => by cases hx
  | (o, n, ag) :: l, h, x, hx => by
    unfold fullF at h
    split at h
    · cases h
    · rcases List.mem_cons.1 hx with rfl | hx
      · simp
      · exact fullF_pos h x hx
theorem places_ok {P : Program} : ∀ (fs : List Field), fullF (fs.map fun f => (f.offset, szOf P f.type, Ev.isAgg P f.type)) = true →
    fs.mapM (fun f => (P.info? f.type).map fun i => (f.offset, i.size)) = some (fs.map fun f => (f.offset, szOf P f.type))
  | [], h => rfl
  | f :: fs, h => by
    have hp := fullF_pos h _ (List.mem_cons_self ..)
    have h' : fullF (fs.map fun f => (f.offset, szOf P f.type, Ev.isAgg P f.type)) = true := by
      rw [List.map_cons] at h
      unfold fullF at h
      split at h
      · cases h
      · exact h
    dsimp only at hp
    cases hi : P.info? f.type with
    | none => exact absurd (by unfold szOf; rw [hi]) hp
    | some i =>
      rw [List.mapM_cons, places_ok fs h', hi]
      simp [szOf, hi]

theorem buildP_ok (ok : CxOk C) (h : R β s a w g pm) {t : TypeId} {ps : Array (Nat × Operand)} {K : V → Prop} (hk : buildP C s t ps.toList K) : ∃ v z, (∀ w', (Instr.build t (ps.map fun (i, x) => (i, a.eval x))).run C.P w' = .ok z w') ∧ VR w (okc β pm) g s.len v z ∧ K v := by
  unfold buildP at hk
  split at hk
  case h_2 => exact hk.elim
  rename_i _ sz fs zz by_ ht
  obtain ⟨info, d, z, h1, h2, h3, h4⟩ := ty_info (ok.ty t _ ht)
  simp only [TyI.mk.injEq] at h4
  obtain ⟨fds, rfl, rfl⟩ := knOf_struct h4.2.1.symm
  obtain rfl := h4.2.2.1
  split at hk
  case h_2 => exact hk.elim
  rename_i hfull
  split at hk
  case h_2 => exact hk.elim
  rename_i htell
  obtain ⟨vs, hb, hk⟩ := optP_some hk
  have hpl : ∀ (f o n : Nat) (ag : Bool), (fds.toList.map fun f => (f.offset, szOf C.P f.type, Ev.isAgg C.P f.type))[f]? = some (o, n, ag) → ((fds.toList.map fun f => (f.offset, szOf C.P f.type)).toArray[f]?) = some (o, n) := fun f o n ag hf => by
    rw [List.getElem?_map] at hf
    simp only [List.getElem?_toArray, List.getElem?_map]
    cases e : fds.toList[f]? with
    | none => rw [e] at hf; cases hf
    | some fd => rw [e] at hf; obtain ⟨rfl, rfl, rfl⟩ := Prod.mk.injEq .. ▸ (Option.some.inj hf); rfl
  obtain ⟨xs', e, hv⟩ := fill_ok h hpl ps.toList (z.cells.toList.map .sc) vs z.cells ⟨by simp, fun k v x hv hx => by
    rw [List.getElem?_map, hx] at hv
    obtain rfl := Option.some.inj hv
    exact .sc _⟩ hb htell
  refine ⟨.agg vs, .agg xs', fun w' => run_build w' t _ xs' ?_, ?_, hk⟩
  · unfold Program.built
    rw [h1, h2]
    dsimp only
    rw [h3, places_ok _ hfull]
    dsimp only
    rw [← e, Array.toList_map]
  · have := VR.agg (w := w) (ok := okc β pm) (g := g) (at_ := s.len) vs xs'.toList hv.1 hv.2
    simpa using this

theorem fieldP_ok (ok : CxOk C) {t : TypeId} {f : Nat} {u : V} {x : Value} {K : V → Prop} {okk : Nat → Nat → Prop} {at_ : Nat → Path → Option Nat} (hu : VR w okk g at_ u x) (hk : fieldP C t u f K) : ∃ v z, (∀ w', (Instr.field t x f).run C.P w' = .ok z w') ∧ VR w okk g at_ v z ∧ K v := by
  unfold fieldP at hk
  split at hk
  case h_2 => exact hk.elim
  rename_i _ sz fs zz by_ ht
  obtain ⟨info, d, z, h1, h2, h3, h4⟩ := ty_info (ok.ty t _ ht)
  simp only [TyI.mk.injEq] at h4
  obtain ⟨fds, rfl, rfl⟩ := knOf_struct h4.2.1.symm
  split at hk
  case h_2 => exact hk.elim
  rename_i _ o n ag hf
  split at hk
  case h_2 => exact hk.elim
  rename_i vs
  cases hu with
  | agg _ xs hl hx =>
    rw [List.getElem?_map] at hf
    cases e : fds.toList[f]? with
    | none => rw [e] at hf; cases hf
    | some fd =>
      rw [e] at hf
      obtain ⟨rfl, rfl, rfl⟩ := Prod.mk.injEq .. ▸ (Option.some.inj hf)
      obtain ⟨l, hl', hk⟩ := optP_some hk
      obtain ⟨t1, t2⟩ := takeN_spec _ _ _ hl'
      have e' : fds[f]? = some fd := by rw [← Array.getElem?_toList]; exact e
      have hrun : ∀ w', (Instr.field t (.agg xs.toArray) f).run C.P w' = (part fd.type xs.toArray fd.offset).run C.P w' := fun w' => by
        unfold Instr.field
        simp [run_underlying h2, e', asAgg]
      simp only [hrun]
      obtain ⟨g1, g2⟩ := ok.flds t _ fds ht h2 fd (List.mem_of_getElem? e)
      obtain ⟨td, hu⟩ := Option.isSome_iff_exists.1 g1
      obtain ⟨ii, hi⟩ := Option.isSome_iff_exists.1 g2
      unfold part
      split at hk
      · rename_i hag
        refine ⟨_, .agg (xs.toArray.extract fd.offset (fd.offset + ii.size)), fun w' => by simp only [Sem.run_bind, run_isAgg hu, hag, Result.andThen_ok, if_true, run_size hi, Sem.run_pure], ?_, hk⟩
        have hlen : (xs.toArray.extract fd.offset (fd.offset + ii.size)).toList.length = l.length := by
          rw [szOf_eq hi] at t1 t2
          by_cases h0 : ii.size = 0
          · simp [t1, h0]
          · have := t2 (ii.size - 1) (by omega)
            rw [List.getElem?_eq_getElem (by omega)] at this
            have := (List.getElem?_eq_some_iff.1 this.symm).1
            simp [t1] at this ⊢; omega
        have := VR.agg (w := w) (ok := okk) (g := g) (at_ := at_) l (xs.toArray.extract fd.offset (fd.offset + ii.size)).toList hlen (fun k v x hv hx' => by
          have hk : k < ii.size := by have := (List.getElem?_eq_some_iff.1 hv).1; rw [t1, szOf_eq hi] at this; exact this
          rw [t2 k (by rw [szOf_eq hi]; exact hk)] at hv
          simp only [List.getElem?_drop] at hv
          refine hx _ v x hv ?_
          simp at hx'
          rw [List.getElem?_take, if_pos (by omega), List.getElem?_drop] at hx'
          exact hx')
        simpa using this
      · rename_i hag
        split at hk
        case h_2 => exact hk.elim
        rename_i _ v
        have h0 : (List.drop fd.offset vs)[0]? = some v := by rw [← t2 0 (by rw [← t1]; simp)]; rfl
        rw [List.getElem?_drop, Nat.add_zero] at h0
        have hlt : fd.offset < xs.length := by rw [hl]; exact (List.getElem?_eq_some_iff.1 h0).1
        refine ⟨v, xs[fd.offset], fun w' => ?_, hx _ v _ h0 (List.getElem?_eq_getElem hlt), hk⟩
        simp [run_isAgg hu, hag, hlt]

theorem binV_ok (ok : CxOk C) {op : BinOp} {t : TypeId} {X Y : Operand} {u u' : V} {x y : Value} {K : V → Prop} {okk : Nat → Nat → Prop} {at_ : Nat → Path → Option Nat} (hu : VR w okk g at_ u x) (hu' : VR w okk g at_ u' y) (hk : binP C op t u u' K) :
    ∃ v z, (∀ w', ((do eqGuard op t X Y x y; binOp op t x y : Sem Value)).run C.P w' = .ok z w') ∧ VR w okk g at_ v z ∧ K v := by
  rcases binP_ev hk with ⟨v, e, hk'⟩ | ⟨p, q, sz, zz, by_, rfl, rfl, ht, hk'⟩
  · obtain ⟨z, e, hz⟩ := evBin_ok (C := C.c) (t := t) (X := X) (Y := Y) hu hu' e
    exact ⟨v, z, e, hz, hk'⟩
  · obtain rfl := hu.sc_inv
    obtain rfl := hu'.sc_inv
    obtain ⟨info, d, z, h1, h2, h3, h4⟩ := ty_info (ok.ty t _ ht)
    simp only [TyI.mk.injEq] at h4
    obtain rfl := knOf_bool h4.2.1.symm
    have hg : ∀ op w', (eqGuard op t X Y (.bool p) (.bool q)).run C.P w' = .ok () w' := fun op w' => by unfold eqGuard; simp
    rcases hk' with ⟨rfl, hk'⟩ | ⟨rfl, hk'⟩
    · refine ⟨_, .bool (p == q), fun w' => ?_, .sc _, hk'⟩
      simp [hg, binOp, Op.equal, Op.maxDepth, run_equalIn_bool' w' 9999 t p q h2]
    · refine ⟨_, .bool (p != q), fun w' => ?_, .sc _, hk'⟩
      simp [hg, binOp, Op.equal, Op.maxDepth, run_equalIn_bool' w' 9999 t p q h2]
      cases p <;> cases q <;> rfl
theorem minmax_ok {mx : Bool} {u u' v : V} {x y : Value} {ok : Nat → Nat → Prop} {at_ : Nat → Path → Option Nat} (hu : VR w ok g at_ u x) (hu' : VR w ok g at_ u' y) (h : minmax mx u u' = some v) (P : Program) :
    ∃ z, (∀ w', (if mx then Builtin.max2 x y else Builtin.min2 x y).run P w' = .ok z w') ∧ VR w ok g at_ v z := by
  unfold minmax at h
  split at h
  case h_2 => cases h
  split at h
  case h_2 => cases h
  obtain rfl := hu.sc_inv
  obtain rfl := hu'.sc_inv
  rename_i a k b l hk
  split at h
  · obtain rfl := Option.some.inj h
    refine ⟨.int _ (max a b), fun w' => ?_, .sc _⟩
    simp only [if_true, Builtin.max2]
    have : (if b > a then b else a) = max a b := by rw [Int.max_def]; split <;> split <;> omega
    rw [this]; rfl
  · obtain rfl := Option.some.inj h
    refine ⟨.int _ (min a b), fun w' => ?_, .sc _⟩
    simp only [Bool.false_eq_true, if_false, Builtin.min2]
    have : (if b < a then b else a) = min a b := by rw [Int.min_def]; split <;> split <;> omega
    rw [this]; rfl

theorem pureP_ok (ok : CxOk C) (h : R β s a w g pm) {o : Oper} {K : V → Prop} (hk : pureP C s o K) :
    ∃ v z, (∀ w', Kp w w' → (execOp a.eval o).run C.P w' = .ok (.value z) w') ∧ VR w (okc β pm) g s.len v z ∧ K v := by
  have hty : ∀ t i, C.c.ty t = some i → tyOf C.c.P t = some i := ok.ty
  obtain ⟨dst, op, type, pos, after, guard⟩ := o
  unfold pureP at hk
  dsimp only at hk
  unfold execOp
  cases op <;> dsimp only at hk ⊢ <;> (try (exact hk.elim))
  case move x => exact ⟨_, _, fun _ _ => rfl, h.opd x, hk⟩
  case assign x => exact ⟨_, _, fun _ _ => rfl, h.opd x, hk⟩
  case pick c p q =>
    unfold pickP at hk
    split at hk
    case h_2 => exact hk.elim
    rename_i _ t hc
    have hcc := h.opd c
    rw [hc] at hcc
    cases t with
    | true => exact ⟨_, _, fun w' _ => by simp [hcc.sc_inv, asBool], h.opd p, hk⟩
    | false => exact ⟨_, _, fun w' _ => by simp [hcc.sc_inv, asBool], h.opd q, hk⟩
  case load t x =>
    obtain ⟨v, e, hk⟩ := loadP_ev hk
    obtain ⟨z, e, hz⟩ := evLoad_ok (C := C.c) hty h (h.opd x) e
    have e : ∀ w', Kp w w' → (Instr.loadAt t (a.eval x)).run C.P w' = .ok z w' := e
    exact ⟨v, z, fun w' hkp => by simp [e w' hkp], hz, hk⟩
  case binOp op t x y t' =>
    split at hk
    · rename_i us hu
      split at hk
      case h_2 => exact hk.elim
      rename_i _ ns hns
      split at hk
      case h_2 => exact hk.elim
      rename_i vs hv
      have hx := h.opd x
      rw [hu] at hx
      have hy := h.opd y
      rw [hv] at hy
      split at hk
      · obtain ⟨b, e, hk⟩ := optP_some hk
        have gg := eqTy_ok (ok.eqt t ns hns) e hx hy x y
        exact ⟨_, .bool b, fun w' _ => by obtain ⟨g1, g2, g3, g4⟩ := gg w'; simp [g1, g3], .sc _, hk⟩
      · obtain ⟨b, e, hk⟩ := optP_some hk
        have gg := eqTy_ok (ok.eqt t ns hns) e hx hy x y
        exact ⟨_, .bool (!b), fun w' _ => by obtain ⟨g1, g2, g3, g4⟩ := gg w'; simp [g2, g4], .sc _, hk⟩
      · exact hk.elim
    · obtain ⟨v, z, e, hz, hk⟩ := binV_ok ok (X := x) (Y := y) (h.opd x) (h.opd y) hk
      refine ⟨v, z, fun w' hkp => ?_, hz, hk⟩
      rw [Sem.run_bind, e w']; rfl
  case unOp op t x =>
    obtain ⟨v, e, hk⟩ := optP_some hk
    obtain ⟨z, e, hz⟩ := evUn_ok (P := C.P) (h.opd x) e
    exact ⟨v, z, fun w' hkp => by simp [e w'], hz, hk⟩
  case convert t t' x =>
    split at hk
    · rename_i _ sz e zz by_ ht
      split at hk
      case h_2 => exact hk.elim
      rename_i _ sz' zz' by' he
      split at hk
      case h_2 => exact hk.elim
      rename_i _ sz'' zz'' by'' ht'
      obtain ⟨info, d, z, a1, a2, a3, a4⟩ := ty_info (ok.ty t _ ht)
      simp only [TyI.mk.injEq] at a4
      obtain rfl := knOf_slice a4.2.1.symm
      obtain ⟨info', d', z', b1, b2, b3, b4⟩ := ty_info (ok.ty e _ he)
      simp only [TyI.mk.injEq] at b4
      obtain rfl := knOf_int b4.2.1.symm
      obtain ⟨info'', d'', z'', c1, c2, c3, c4⟩ := ty_info (ok.ty t' _ ht')
      simp only [TyI.mk.injEq] at c4
      obtain rfl := knOf_str c4.2.1.symm
      obtain ⟨b, e1, hk⟩ := bytesP_ok (P := C.P) h (h.opd x) hk
      have hsl : ∃ A l c, a.eval x = .slice A l c := by
        have e1 := e1 w (Kp.refl w)
        generalize a.eval x = v at e1
        cases v <;> first | exact ⟨_, _, _, rfl⟩ | simp [Conv.bytesToString] at e1
      obtain ⟨A, l, c, hsl⟩ := hsl
      rw [hsl] at e1
      exact ⟨_, .string b, fun w' hkp => by simp [hsl, run_convert_bytes_string w' t t' e A l c a2 b2 c2, e1 w' hkp], .sc _, hk⟩
    · obtain ⟨v, e, hk⟩ := optP_some hk
      obtain ⟨z, e, hz⟩ := evConv_ok (C := C.c) hty (h.opd x) e
      have e : ∀ w', Kp w w' → (convert t t' (a.eval x)).run C.P w' = .ok z w' := e
      exact ⟨v, z, fun w' hkp => by simp [e w' hkp], hz, hk⟩
  case makeFunc fn fs cs =>
    split at hk
    case h_2 => exact hk.elim
    rename_i f hfs
    have hv : evV C.c s ⟨dst, .makeFunc (.func f) fs cs, type, pos, after, guard⟩ = some (.fn f (cs.toList.map s.opd)) := by
      unfold evV; dsimp only; rw [hfs]
    obtain ⟨z, e, hz⟩ := evV_ok (C := C.c) hty h hv
    exact ⟨_, z, e, hz, hk⟩
  case slice t x lo hi mx =>
    cases mx with
    | some m => exact hk.elim
    | none =>
      obtain ⟨v, e, hk⟩ := sliceP_ev hk
      obtain ⟨z, e, hz⟩ := evSlice_ok (C := C.c) hty h (h.opd x) e
      have e : ∀ w', Kp w w' → (Instr.sliceAt t (a.eval x) (lo.map a.eval) (hi.map a.eval) none).run C.P w' = .ok z w' := e
      exact ⟨v, z, fun w' hkp => by simp [e w' hkp], hz, hk⟩
  case fieldAddr t x f =>
    obtain ⟨v, e, hk⟩ := optP_some hk
    obtain ⟨z, e, hz⟩ := evFieldAddr_ok (C := C.c) hty (h.opd x) e
    have e : ∀ w', (Instr.fieldAt t (a.eval x) f).run C.P w' = .ok z w' := e
    exact ⟨v, z, fun w' hkp => by simp [e w'], hz, hk⟩
  case indexAddr t x i =>
    obtain ⟨v, e, hk⟩ := idxP_ev hk
    obtain ⟨z, e, hz⟩ := evIndexAddr_ok (C := C.c) hty h (h.opd x) (h.opd i) e
    have e : ∀ w', (Instr.indexAt t (a.eval x) (a.eval i)).run C.P w' = .ok z w' := e
    exact ⟨v, z, fun w' hkp => by simp [e w'], hz, hk⟩
  case index t x i =>
    obtain ⟨v, e, hk⟩ := strP_ev hk
    obtain ⟨z, e, hz⟩ := evIndex_ok (C := C.c) hty (h.opd x) (h.opd i) e
    have e : ∀ w', Kp w w' → (Instr.index t (a.eval x) (a.eval i)).run C.P w' = .ok z w' := e
    exact ⟨v, z, fun w' hkp => by simp [e w' hkp], hz, hk⟩
  case extract x i =>
    split at hk
    case h_2 => exact hk.elim
    rename_i vs hx
    obtain ⟨v, e, hk⟩ := optP_some hk
    have hv : evV C.c s ⟨dst, .extract x i, type, pos, after, guard⟩ = some v := by
      unfold evV; dsimp only; rw [hx]; exact e
    obtain ⟨z, e, hz⟩ := evV_ok (C := C.c) hty h hv
    exact ⟨_, z, e, hz, hk⟩
  case field t x f =>
    obtain ⟨v, z, e, hz, hk⟩ := fieldP_ok ok (h.opd x) hk
    exact ⟨v, z, fun w' hkp => by simp [e w'], hz, hk⟩
  case build t ps =>
    obtain ⟨v, z, e, hz, hk⟩ := buildP_ok ok h hk
    exact ⟨v, z, fun w' hkp => by simp [e w'], hz, hk⟩
  case nilCheck x =>
    have hx := h.opd x
    unfold nilP at hk
    generalize s.opd x = u at hx hk
    generalize a.eval x = z at hx
    refine ⟨u, z, fun w' _ => ?_, hx, ?_⟩
    · cases hx <;> first | rfl | exact hk.elim
    · cases hx <;> first | exact hk | exact hk.elim
  case call c =>
    obtain ⟨callee, args, argTypes⟩ := c
    dsimp only at hk
    split at hk
    case h_4 => exact hk.elim
    · split at hk
      case h_2 => exact hk.elim
      rename_i x t e1 e2
      rcases lenP_ev hk with ⟨sz, zz, by_, b, ht, hx, hk⟩ | ⟨sz, e, zz, by_, n, ht, hx, hk⟩
      · have hv : evV C.c s ⟨dst, .call ⟨.builtin .len, args, argTypes⟩, type, pos, after, guard⟩ = some (.sc (.int .i64 b.size)) := by
          unfold evV; dsimp only; rw [e1, e2]; dsimp only; rw [c_ty, ht]; dsimp only; rw [hx]
        obtain ⟨z, e, hz⟩ := evV_ok (C := C.c) hty h hv
        exact ⟨_, z, e, hz, hk⟩
      · have hv : evV C.c s ⟨dst, .call ⟨.builtin .len, args, argTypes⟩, type, pos, after, guard⟩ = some (.sc (.int .i64 n)) := by
          unfold evV; dsimp only; rw [e1, e2]; dsimp only; rw [c_ty, ht]; dsimp only; rw [hx]
        obtain ⟨z, e, hz⟩ := evV_ok (C := C.c) hty h hv
        exact ⟨_, z, e, hz, hk⟩
    · split at hk
      case h_2 => exact hk.elim
      rename_i x y e1
      obtain rfl : args = #[x, y] := by cases args; simpa using e1
      obtain ⟨v, e, hk⟩ := optP_some hk
      obtain ⟨z, e, hz⟩ := minmax_ok (h.opd x) (h.opd y) e C.P
      exact ⟨v, z, fun w' _ => by have e := e w'; simp [resolve, invoke, builtin, Builtin.max_]; simp at e; rw [e]; rfl, hz, hk⟩
    · split at hk
      case h_2 => exact hk.elim
      rename_i x y e1
      obtain rfl : args = #[x, y] := by cases args; simpa using e1
      obtain ⟨v, e, hk⟩ := optP_some hk
      obtain ⟨z, e, hz⟩ := minmax_ok (h.opd x) (h.opd y) e C.P
      exact ⟨v, z, fun w' _ => by have e := e w'; simp [resolve, invoke, builtin, Builtin.min_]; simp at e; rw [e]; rfl, hz, hk⟩
end
end Ev
namespace Ev
open Go Go.RowKit
set_option linter.unusedVariables false
set_option linter.unusedSimpArgs false
section
variable {β : Base} {s : St} {a : Act} {w : World} {g : Gh} {pm : Nat → Nat → Option (Nat × Path)} {C : Cx}

/-- The state tells the real one, somehow. -/
def Is (β : Base) (n : Nat) (s : St) (a : Act) (w : World) : Prop := s.ng = n ∧ ∃ g pm, R β s a w g pm

theorem R.temps {s' : St} {a' : Act} (h : R β s a w g pm) (hd : a'.defers = []) (hz : a'.tmps.size = s'.fz) (ht : ∀ t, VR w (okc β pm) g s.len (s'.get t) (a'.tmps.getD t undef)) (ho : ∀ r, s'.obj r = s.obj r) (hn : s'.nx = s.nx) (hg : s'.ng = s.ng) : R β s' a' w g pm := by
  have hat : ∀ r p, s'.at r p = s.at r p := fun r p => by unfold St.at; rw [ho]
  have hlen : s'.len = s.len := by funext r p; unfold St.len; rw [hat]
  exact {
    defers := hd, fsz := hz
    tm := fun t => by rw [hlen]; exact ht t
    blk := fun r p es d n hh => by rw [hat] at hh; exact h.blk r p es d n hh
    fresh := fun r hr => by rw [ho]; exact h.fresh r (by rw [← hn]; exact hr)
    own := h.own, keep := h.keep, low := h.low
    ngnx := by rw [hg, hn]; exact h.ngnx
    top := fun k hk => by
      rw [hg] at hk
      unfold St.shape; rw [ho]; exact h.top k hk }

theorem Is.same {n : Nat} {s s' : St} (h : Is β n s a w) (e : Same s s') : Is β n s' a w := by
  obtain ⟨h1, g, pm, h2⟩ := h
  exact ⟨e.ng.trans h1, g, pm, h2.same e⟩
theorem Is.frS {n : Nat} {s : St} (h : Is β n s a w) {r : Nat} (hr : s.ng ≤ r) : Is β n (s.frS r) a w := by
  obtain ⟨h1, g, pm, h2⟩ := h
  have : Is β n (s.frz r) a w := ⟨h1, g, _, (h2.freeze hr).1⟩
  exact this.same (St.frS_eq s r)
theorem Is.frzR {n : Nat} {s : St} (h : Is β n s a w) (q : Nat) : Is β n (frzR s q) a w := by
  unfold Ev.frzR
  split
  · rename_i e; exact h.frS (Nat.le_of_ble_eq_true e)
  · exact h
theorem Is.frzAllR {n : Nat} : ∀ (l : List Nat) {s : St}, Is β n s a w → Is β n (frzAllR l s) a w
  | [], s, h => h
  | q :: l, s, h => Is.frzAllR l (h.frzR q)

theorem VR.det {w : World} {ok : Nat → Nat → Prop} {g g' : Gh} {at_ at' : Nat → Path → Option Nat} {r j q : Nat}
    (h1 : ∀ p i n, at_ r ((i, j) :: p) = some n → at' q p = some n ∧ SameGh g g' r q ((i, j) :: p) p)
    (h2 : ∀ r' p n, at_ r' p = some n → (r' = r → ∀ i p', p ≠ (i, j) :: p') → at' r' p = some n ∧ SameGh g g' r' r' p p) :
    (∀ v x, VR w ok g at_ v x → VR w ok g' at' (det1 r j q v) x) := fun v x h => by
  have up : ∀ b o c, ok b o → w.cell? ⟨b, o, none⟩ = some c → ok b o ∧ w.cell? ⟨b, o, none⟩ = some c := fun _ _ _ a b => ⟨a, b⟩
  cases h with
  | sc x => exact .sc _
  | sh n es c h => exact .sh n es _ h
  | shp cs b o vals h1 h2 => exact .shp cs b o vals h1 h2
  | hdr r' p n c hn h =>
    have other : (r' = r → ∀ i p', p ≠ (i, j) :: p') → VR w ok g' at' (.hdr r' p) x := fun hh => by
      obtain ⟨e1, e2⟩ := h2 r' p n hn hh
      exact .hdr r' p n _ e1 (h.same e2)
    unfold det1
    dsimp only
    cases e : Nat.beq r' r with
    | false => exact other (fun e' => by rw [e', Nat.beq_refl] at e; cases e)
    | true =>
      obtain rfl := Nat.eq_of_beq_eq_true e
      dsimp only
      cases p with
      | nil => exact other (fun _ _ _ e => by cases e)
      | cons xx p' =>
        obtain ⟨i, j'⟩ := xx
        dsimp only
        cases e' : Nat.beq j' j with
        | false => exact other (fun _ i' p'' e2 => by injection e2 with e2 _; injection e2 with _ e2; rw [e2, Nat.beq_refl] at e'; cases e')
        | true =>
          obtain rfl := Nat.eq_of_beq_eq_true e'
          obtain ⟨e1, e2⟩ := h1 p' i n hn
          exact .hdr q p' n _ e1 (h.same e2)
  | part r' p o len n c hn hl h =>
    have other : (r' = r → ∀ i p', p ≠ (i, j) :: p') → VR w ok g' at' (.part r' p o len) x := fun hh => by
      obtain ⟨e1, e2⟩ := h2 r' p n hn hh
      exact .part r' p o len n _ e1 hl (h.same e2)
    unfold det1
    dsimp only
    cases e : Nat.beq r' r with
    | false => exact other (fun e' => by rw [e', Nat.beq_refl] at e; cases e)
    | true =>
      obtain rfl := Nat.eq_of_beq_eq_true e
      dsimp only
      cases p with
      | nil => exact other (fun _ _ _ e => by cases e)
      | cons xx p' =>
        obtain ⟨i, j'⟩ := xx
        dsimp only
        cases e' : Nat.beq j' j with
        | false => exact other (fun _ i' p'' e2 => by injection e2 with e2 _; injection e2 with _ e2; rw [e2, Nat.beq_refl] at e'; cases e')
        | true =>
          obtain rfl := Nat.eq_of_beq_eq_true e'
          obtain ⟨e1, e2⟩ := h1 p' i n hn
          exact .part q p' o len n _ e1 hl (h.same e2)
  | ptr r' p a b n hn hl =>
    have other : (r' = r → ∀ i p', p ≠ (i, j) :: p') → VR w ok g' at' (.ptr r' p a b) (.pointer (some ⟨g.blk r' p, g.off r' p + a * g.sz r' p + b, none⟩)) := fun hh => by
      obtain ⟨e1, e2, e3, e4, e5, e6⟩ := h2 r' p n hn hh
      have := VR.ptr (w := w) (ok := ok) (g := g') (at_ := at') r' p a b n e1 (e6 ▸ hl)
      rw [e2, e3, e4] at this; exact this
    unfold det1
    dsimp only
    cases e : Nat.beq r' r with
    | false => exact other (fun e' => by rw [e', Nat.beq_refl] at e; cases e)
    | true =>
      obtain rfl := Nat.eq_of_beq_eq_true e
      dsimp only
      cases p with
      | nil => exact other (fun _ _ _ e => by cases e)
      | cons xx p' =>
        obtain ⟨i, j'⟩ := xx
        dsimp only
        cases e' : Nat.beq j' j with
        | false => exact other (fun _ i' p'' e2 => by injection e2 with e2 _; injection e2 with _ e2; rw [e2, Nat.beq_refl] at e'; cases e')
        | true =>
          obtain rfl := Nat.eq_of_beq_eq_true e'
          obtain ⟨e1, e2, e3, e4, e5, e6⟩ := h1 p' i n hn
          have := VR.ptr (w := w) (ok := ok) (g := g') (at_ := at') q p' a b n e1 (e6 ▸ hl)
          rw [e2, e3, e4] at this; exact this
  | fn f caps xs hl hx =>
    cases caps with
    | nil => exact .fn f [] xs hl (fun k v x hv => by simp at hv)
    | cons => exact .dead _
  | agg => exact .dead _
  | tup => exact .dead _
  | bxr => exact .dead _
  | dead => exact .dead _
theorem VR.up3 {w w' : World} {ok ok' : Nat → Nat → Prop} {g g' : Gh} {at_ at' : Nat → Path → Option Nat} {f1 f2 f3 : V → V}
    (e2 : ∀ vs, f2 (.agg vs) = .agg (vs.map f1)) (e2' : ∀ f c cs, f2 (.fn f (c :: cs)) = .fn f ((c :: cs).map f1)) (e2'' : ∀ v, (∀ vs, v ≠ .agg vs) → (∀ f c cs, v ≠ .fn f (c :: cs)) → f2 v = f1 v)
    (e3 : ∀ vs, f3 (.tup vs) = .tup (vs.map f2)) (e3' : ∀ v, (∀ vs, v ≠ .tup vs) → f3 v = f2 v)
    (h1 : ∀ v x, VR w ok g at_ v x → VR w' ok' g' at' (f1 v) x) : ∀ v x, VR w ok g at_ v x → VR w' ok' g' at' (f3 v) x := by
  have h2 : ∀ v x, VR w ok g at_ v x → VR w' ok' g' at' (f2 v) x := fun v x h => by
    cases h with
    | agg vs xs hl hx =>
      rw [e2]
      exact .agg _ xs (by rw [List.length_map]; exact hl) (mapVR h1 hx)
    | fn f caps xs hl hx =>
      cases caps with
      | nil => rw [e2'' _ (fun _ e => by cases e) (fun _ _ _ e => by cases e)]; exact h1 _ _ (.fn f [] xs hl hx)
      | cons c cs => rw [e2']; exact .fn f _ xs (by rw [List.length_map]; exact hl) (mapVR h1 hx)
    | sc x => rw [e2'' _ (fun _ e => by cases e) (fun _ _ _ e => by cases e)]; exact h1 _ _ (.sc x)
    | sh n es c h => rw [e2'' _ (fun _ e => by cases e) (fun _ _ _ e => by cases e)]; exact h1 _ _ (.sh n es _ h)
    | shp cs b o vals p q => rw [e2'' _ (fun _ e => by cases e) (fun _ _ _ e => by cases e)]; exact h1 _ _ (.shp cs b o vals p q)
    | hdr r p n c hn h => rw [e2'' _ (fun _ e => by cases e) (fun _ _ _ e => by cases e)]; exact h1 _ _ (.hdr r p n _ hn h)
    | part r p o l n c hn hl h => rw [e2'' _ (fun _ e => by cases e) (fun _ _ _ e => by cases e)]; exact h1 _ _ (.part r p o l n _ hn hl h)
    | ptr r p i j n hn hl => rw [e2'' _ (fun _ e => by cases e) (fun _ _ _ e => by cases e)]; exact h1 _ _ (.ptr r p i j n hn hl)
    | bxr vs b o xs k1 k2 => rw [e2'' _ (fun _ e => by cases e) (fun _ _ _ e => by cases e)]; exact h1 _ _ (.bxr vs b o xs k1 k2)
    | tup vs xs hl hx => rw [e2'' _ (fun _ e => by cases e) (fun _ _ _ e => by cases e)]; exact h1 _ _ (.tup vs xs hl hx)
    | dead c => rw [e2'' _ (fun _ e => by cases e) (fun _ _ _ e => by cases e)]; exact h1 _ _ (.dead _)
  intro v x h
  by_cases ht : ∃ vs, v = .tup vs
  · obtain ⟨vs, rfl⟩ := ht
    cases h with
    | tup vs xs hl hx =>
      rw [e3]
      exact .tup _ xs (by rw [List.length_map]; exact hl) (mapVR h2 hx)
  · rw [e3' v (fun vs e => ht ⟨vs, e⟩)]; exact h2 v x h
theorem det3_up {w w' : World} {ok ok' : Nat → Nat → Prop} {g g' : Gh} {at_ at' : Nat → Path → Option Nat} {r j q : Nat} (h1 : ∀ v x, VR w ok g at_ v x → VR w' ok' g' at' (det1 r j q v) x) :
    ∀ v x, VR w ok g at_ v x → VR w' ok' g' at' (det3 r j q v) x := by
  refine VR.up3 (f1 := det1 r j q) (f2 := det2 r j q) (fun vs => rfl) (fun f c cs => rfl) (fun v h1 h2 => ?_) (fun vs => rfl) (fun v h => ?_) h1
  · cases v with
    | agg vs => exact absurd rfl (h1 vs)
    | fn f cs => cases cs with
      | nil => rfl
      | cons c cs => exact absurd rfl (h2 f c cs)
    | _ => rfl
  · cases v with
    | tup vs => exact absurd rfl (h vs)
    | _ => rfl

theorem Is.detB {n : Nat} {s s' : St} (h : Is β n s a w) {r j : Nat} (e : s.detB r j = some s') : Is β n s' a w := by
  obtain ⟨hn, g, pm, h⟩ := h
  obtain ⟨tm, ob, nx, fz, ng⟩ := s
  unfold St.detB at e
  dsimp only at e
  split at e
  case h_2 => cases e
  rename_i _ es d m b hob
  split at e
  case h_2 => cases e
  split at e
  case h_2 => cases e
  rename_i _ row
  split at e
  case h_2 => cases e
  rename_i _ u hu
  split at e
  case h_2 => cases e
  rename_i _ o ho
  obtain rfl := Option.some.inj e
  generalize hs : (⟨tm, ob, nx, fz, ng⟩ : St) = s at *
  have hobj : s.obj r = some ⟨[row], d, m, true⟩ := by rw [← hs]; exact hob
  have hat : s.at r [] = some ([row], d, m) := by unfold St.at; rw [hobj]; rfl
  obtain ⟨h1, _, _⟩ := h.detach hat (i := 0) (j := j) rfl hu ho
  generalize hD : ((s.clear u r [] j).putOb r [] (setAt 0 j .dead)).newOb o = D at h1
  have hnx : s.nx = nx := by rw [← hs]
  have hrnx : r ≠ s.nx := fun e => by rw [h.fresh r (by rw [e]; exact Nat.le_refl _)] at hobj; cases hobj
  have hDobj : ∀ q, D.obj q = look none (setO nx (some o) (setO r (some ⟨[row.set j .dead], d, m, true⟩) ob)) q := fun q => by
    rw [← hD, look_setO, look_setO, ← hnx]
    show look none ((((s.clear u r [] j).putOb r [] (setAt 0 j .dead)).nx, some o) :: _) q = _
    rw [look_cons]
    have hnx1 : ((s.clear u r [] j).putOb r [] (setAt 0 j .dead)).nx = s.nx := by rw [(St.putOb_tm _ _ _ _).2.1, (s.clear_ob u r [] j).2.1]
    rw [hnx1]
    by_cases e : s.nx = q
    · rw [if_pos e, if_pos e]
    · rw [if_neg e, if_neg e]
      show ((s.clear u r [] j).putOb r [] (setAt 0 j .dead)).obj q = _
      have hco : ∀ q, (s.clear u r [] j).obj q = s.obj q := fun q => by unfold St.obj; rw [(s.clear_ob u r [] j).1]
      by_cases e' : r = q
      · subst e'
        rw [if_pos rfl, putOb_obj (o := ⟨[row], d, m, true⟩) (by rw [hco]; exact hobj)]
        rfl
      · rw [if_neg e', putOb_obj_ne (fun e => e' e.symm), hco, ← hs]; rfl
  have hDnx : D.nx = s.nx + 1 := by
    rw [← hD]
    show ((s.clear u r [] j).putOb r [] (setAt 0 j .dead)).nx + 1 = _
    rw [(St.putOb_tm _ _ _ _).2.1, (s.clear_ob u r [] j).2.1]
  have hDng : D.ng = s.ng := by
    rw [← hD]
    show ((s.clear u r [] j).putOb r [] (setAt 0 j .dead)).ng = _
    rw [St.putOb_ng, St.clear_ng]
  have hDat : ∀ q p, D.at q p = if q = s.nx then sub o.deep o.sz o.es p else if q = r then sub d m [row.set j .dead] p else s.at q p := fun q p => by
    unfold St.at
    rw [hDobj, look_setO, look_setO, ← hnx]
    by_cases e : q = s.nx
    · rw [if_pos e.symm, if_pos e]
    · rw [if_neg (fun e' => e e'.symm), if_neg e]
      by_cases e' : q = r
      · rw [if_pos e'.symm, if_pos e']
      · rw [if_neg (fun e => e' e.symm), if_neg e', ← hs]; rfl
  have hsubP : ∀ p i l, s.len r ((i, j) :: p) = some l → i = 0 ∧ D.len s.nx p = some l := fun p i l hl => by
    unfold St.len St.at at hl
    rw [hobj] at hl
    dsimp only at hl
    have hi : i = 0 := by
      cases i with
      | zero => rfl
      | succ i => simp [sub] at hl
    subst hi
    refine ⟨rfl, ?_⟩
    unfold St.len
    rw [hDat, if_pos rfl, ← hl]
    congr 1
    simp only [sub, List.getElem?_cons_zero, hu]
    cases u with
    | own d' n' es' => simp only [ownIn, Option.some.injEq] at ho; subst ho; rfl
    | sl n' es' =>
      cases d with
      | true => simp only [ownIn, Option.some.injEq] at ho; subst ho; rfl
      | false => simp [ownIn] at ho
    | _ => simp [ownIn] at ho
  have hP : ([] : Path) ++ [(0, j)] = [(0, j)] := rfl
  have hokc : okc β (detPm pm r ([] ++ [(0, j)]) s.nx) = okc β pm := by
    funext b o'
    unfold okc
    rw [propext detPm_none]
  have hV : ∀ v x, VR w (okc β pm) g s.len v x → VR w (okc β pm) (detGh g r ([] ++ [(0, j)]) s.nx) D.len (det3 r j s.nx v) x := by
    refine det3_up (VR.det (fun p i l hl => ?_) (fun r' p l hl hne => ?_))
    · obtain ⟨rfl, e⟩ := hsubP p i l hl
      exact ⟨e, detGh_new g r ([] ++ [(0, j)]) s.nx p⟩
    · have hr' : r' ≠ s.nx := fun e => by
        unfold St.len St.at at hl
        rw [e, h.fresh s.nx (Nat.le_refl _)] at hl; cases hl
      refine ⟨?_, detGh_else g r _ p hr'⟩
      unfold St.len
      rw [hDat, if_neg hr']
      by_cases e : r' = r
      · rw [if_pos e]
        subst e
        unfold St.len St.at at hl
        rw [hobj] at hl
        cases p with
        | nil => exact hl
        | cons xx p =>
          obtain ⟨i, j'⟩ := xx
          have hj : j' ≠ j := fun e => hne rfl i p (by rw [e])
          have := sub_setAt_ne (d := d) (n := m) (es := [row]) (i := 0) (j := j) (v := V.dead) (i' := i) (j' := j') (fun e => hj e.2.symm) p
          rw [show setAt 0 j V.dead [row] = [row.set j .dead] from rfl] at this
          rw [this]; exact hl
      · rw [if_neg e]; exact hl
  refine ⟨by rw [← hn, ← hs], detGh g r ([] ++ [(0, j)]) s.nx, detPm pm r ([] ++ [(0, j)]) s.nx, ?_⟩
  refine h1.temps h.defers (by rw [h.fsz, ← hs]) (fun t => ?_) (fun q => ?_) ?_ ?_
  · rw [hokc]
    show VR w _ _ _ (look V.dead (mapT (det3 r j nx) tm) t) _
    rw [mapT_eq, look_map V.dead V.dead _ rfl, ← hnx]
    have := h.tm t
    rw [show s.get t = look V.dead tm t by rw [← hs]; rfl] at this
    exact hV _ _ this
  · exact (hDobj q).symm
  · rw [hDnx, hnx]
  · rw [hDng, ← hs]

theorem Is.normD {n : Nat} (acc : St → V) : ∀ (m k : Nat) {s : St}, Is β n s a w → Is β n (normD acc m k s) a w
  | 0, k, s, h => h
  | m + 1, k, s, h => by
    unfold Ev.normD
    split
    · split
      · rename_i e; exact Is.normD acc m (k + 1) (h.detB e)
      · exact Is.normD acc m (k + 1) h
    · exact Is.normD acc m (k + 1) h
theorem Is.normF {n : Nat} (acc : St → V) (kh : Bool) : ∀ (m k : Nat) {s : St}, Is β n s a w → Is β n (normF acc kh m k s) a w
  | 0, k, s, h => h
  | m + 1, k, s, h => by
    unfold Ev.normF
    split
    · split
      · exact Is.normF acc _ m (k + 1) h
      · exact Is.normF acc _ m (k + 1) (h.frzR _)
    · exact Is.normF acc _ m (k + 1) (h.frzR _)
    · exact Is.normF acc _ m (k + 1) h
theorem Is.norm {n : Nat} (acc : St → V) (kh : Bool) {s : St} (h : Is β n s a w) : Is β n (norm acc kh s) a w := (h.normD acc _ _).normF acc kh _ _
theorem Is.prepS {n : Nat} (f : Operand) (xs : List Operand) : ∀ (ms : List Nat) (k : Nat) {s : St}, Is β n s a w → Is β n (prepS f xs ms k s) a w
  | [], k, s, h => h
  | 0 :: ms, k, s, h => Is.prepS f xs ms (k + 1) h
  | 1 :: ms, k, s, h => Is.prepS f xs ms (k + 1) (h.normD _ _ _)
  | (m + 2) :: ms, k, s, h => Is.prepS f xs ms (k + 1) (Is.frzAllR _ (h.normD _ _ _))
end
end Ev
namespace Ev
open Go Go.RowKit
set_option linter.unusedVariables false
set_option linter.unusedSimpArgs false
section
variable {β : Base} {s : St} {a : Act} {w : World} {g : Gh} {pm : Nat → Nat → Option (Nat × Path)} {C : Cx} {n : Nat}

/-- It tells the real state, and what follows is so. -/
def Now (β : Base) (n : Nat) (a : Act) (w : World) (K : St → Prop) : Prop := ∃ s, Is β n s a w ∧ K s

theorem len_ext {s s' : St} (h : ∀ q, s'.obj q = s.obj q) : s'.len = s.len := by
  funext r p; unfold St.len St.at; rw [h]
theorem putP_ok (h : R β s a w g pm) (hn : s.ng = n) {dst : Option Nat} {v : V} {z : Value} (hv : VR w (okc β pm) g s.len v z) {K : St → Prop} (he : putP s dst v K) : Now β n (a.put dst z) w K := by
  unfold putP at he
  obtain ⟨tm, ob, nx, fz, ng⟩ := s
  dsimp only at he
  split at he
  · exact ⟨_, ⟨hn, g, pm, h⟩, he⟩
  · rename_i d
    split at he
    case h_2 => exact he.elim
    rename_i hd
    rw [forceV_eq] at he
    exact ⟨⟨(d, v) :: tm, ob, nx, fz, ng⟩, ⟨hn, g, pm, h.put hv (by simpa [Nat.blt_eq] using hd)⟩, he⟩

theorem R.rowS {P : Program} (h : R β s a w g pm) {r : Nat} {p : Path} {o : Ob} {es0 : List (List V)} {d : Bool} {m i j : Nat} {e : List V} {vs : List V} {hs : List Nat} (ho : s.obj r = some o) (hat : s.at r p = some (es0, d, m)) (hei : es0[i]? = some e) {e' : List V} {kf : V → V} {dr : List Nat} {c : Nat}
    (hr : rowE s o.bx d r p i vs j hs e (fun v => v) [] s.nx = some (e', kf, dr, c)) {cs : List Value} (hl : cs.length = vs.length) (hv : ∀ (k : Nat) (v : V) (c : Value), vs[k]? = some v → cs[k]? = some c → VR w (okc β pm) g s.len v c) :
    (storeCells ⟨g.blk r p, g.off r p + i * g.sz r p + j, none⟩ cs 0).run P w = .ok () (w.setCells (g.blk r p) (g.off r p + i * g.sz r p + j) cs) ∧
    ∃ g' pm', R β (rowS s r p i e' kf dr c) a (w.setCells (g.blk r p) (g.off r p + i * g.sz r p + j) cs) g' pm' ∧ SameGh g g' r r p p ∧ (rowS s r p i e' kf dr c).len r p = s.len r p ∧ (rowS s r p i e' kf dr c).ng = s.ng := by
  obtain ⟨s', K, h1, h2, h3, h4, h5, h6⟩ := row_ok h.fresh ho hat hei hr
  obtain ⟨r1, ⟨g', pm', hR, hV, hS, hL⟩⟩ := storeL_ok (P := P) vs cs j hs s w g pm s' K (g.blk r p) (g.off r p + i * g.sz r p + j) 0 h hl hv h1 (.inr ⟨rfl, rfl⟩)
  rw [Nat.add_zero] at r1 hR
  have hsm := rowS_eq s r p i e' kf dr c
  refine ⟨r1, g', pm', (hR.ext h2 h3 h4 h5 h6).same hsm, hS, ?_, ?_⟩
  · rw [hsm.len, len_ext h3, hL]
  · rw [hsm.ng, h6]
    have := (hR.ext h2 h3 h4 h5 h6)
    unfold rowSt at h6
    rw [St.putOb_ng] at h6
    exact h6.symm

theorem newP_ok {P : Program} (h : R β s a w g pm) (hn : s.ng = n) {k : Nat} {hs : List Nat} {vs : List V} {cs : Array Value} (t : TypeId) (hk : cs.size = k) (hl : cs.toList.length = vs.length) (hv : ∀ (k : Nat) (u : V) (c : Value), vs[k]? = some u → cs.toList[k]? = some c → VR w (okc β pm) g s.len u c)
    {dst : Option Nat} {K : St → Prop} (he : newP s k hs vs dst K) : Now β n (a.put dst (.pointer (some ⟨w.heap.size, 0, none⟩))) { w with heap := w.heap.push (.cells cs t) } K := by
  unfold newP at he
  rw [forceN_eq] at he
  split at he
  case h_2 => exact he.elim
  rename_i _ e' kf dr c hrow
  rw [forceSt_eq] at he
  obtain ⟨h0, hV1⟩ := h.allocZ (es := [List.replicate k .dead]) (d := true) (bx := true) (n := k) (cap := 1) (fun _ => 0) (cs := cs) t (fun i e hi => by
      cases i with
      | zero => obtain rfl := Option.some.inj hi; simp
      | succ i => simp at hi) (by simp) (by simpa using hk) (fun i j e u hi hj => by
      cases i with
      | succ i => simp at hi
      | zero =>
        obtain rfl := Option.some.inj hi
        have hj' := (List.getElem?_eq_some_iff.1 hj).1
        rw [List.length_replicate] at hj'
        rw [List.getElem?_replicate, if_pos hj'] at hj
        obtain rfl := Option.some.inj hj
        exact ⟨cs[j]'(by omega), by simp [Array.getElem?_eq_getElem (show j < cs.size by omega)], .inl ⟨trivial, .dead _⟩⟩)
  have hsm := St.newO_eq s ⟨[List.replicate k .dead], true, k, true⟩
  have h1 := h0.same hsm
  have hnx1 : (s.newO ⟨[List.replicate k .dead], true, k, true⟩).nx = s.nx + 1 := hsm.nx
  have hobj : (s.newO ⟨[List.replicate k .dead], true, k, true⟩).obj s.nx = some ⟨[List.replicate k .dead], true, k, true⟩ := by
    rw [hsm.obj]; exact look_cons_eq _ _ _ _
  have hat : (s.newO ⟨[List.replicate k .dead], true, k, true⟩).at s.nx [] = some ([List.replicate k .dead], true, k) := by unfold St.at; rw [hobj]; rfl
  have hcells : ∀ (m : Nat) (c : Value), cs.toList[m]? = some c → ({ w with heap := w.heap.push (.cells cs t) } : World).cell? ⟨w.heap.size, 0 + m, none⟩ = some c := fun m c hm => by
    rw [(push_new w cs t _).1, Nat.zero_add]; simpa using hm
  rw [← hnx1] at hrow
  obtain ⟨_, g2, pm2, hR2, ⟨e1, e2, e3, e4, e5⟩, hl2, hng⟩ := h1.rowS (P := P) hobj hat (i := 0) (e := List.replicate k .dead) rfl hrow (cs := cs.toList) hl (fun m u c hu hc => by
    have := hV1 _ _ (hv m u c hu hc)
    rw [hsm.len]; exact this)
  have eb : (newGh g s.nx w.heap.size k 1 fun _ => 0).blk s.nx [] = w.heap.size := by simp [newGh]
  have eo : (newGh g s.nx w.heap.size k 1 fun _ => 0).off s.nx [] + 0 * (newGh g s.nx w.heap.size k 1 fun _ => 0).sz s.nx [] + 0 = 0 := by simp [newGh]
  rw [eb, eo, setCells_self hcells] at hR2
  refine putP_ok hR2 (by rw [hng, hsm.ng]; exact hn) ?_ he
  have hln : (rowS (s.newO ⟨[List.replicate k .dead], true, k, true⟩) s.nx [] 0 e' kf dr c).len s.nx [] = some 1 := by
    rw [hl2]; unfold St.len; rw [hat]; rfl
  have := VR.ptr (w := { w with heap := w.heap.push (.cells cs t) }) (ok := okc β pm2) (g := g2) (at_ := (rowS (s.newO ⟨[List.replicate k .dead], true, k, true⟩) s.nx [] 0 e' kf dr c).len) s.nx [] 0 0 1 hln (by rw [e5]; simp [newGh, newNl])
  rw [e1, e2, e3] at this
  simpa [newGh] using this

theorem boxO_ok (h : Is β n s a w) {t : TypeId} {x : Operand} {dst : Option Nat} {K : St → Prop} (he : boxO C s t x dst K) : ∃ z w', (Instr.box t (a.eval x)).run C.P w = .ok z w' ∧ Now β n (a.put dst z) w' K ∧ Keeps (fun _ _ => none) w w' := by
  unfold boxO at he
  rw [forceSt_eq] at he
  obtain ⟨hn, g, pm, hR⟩ := Is.norm (fun s => s.opd x) true h
  generalize norm (fun s => s.opd x) true s = s1 at *
  split at he
  case h_2 => exact he.elim
  rename_i ht
  rw [forceN_eq] at he
  obtain ⟨c1, c2⟩ := tell (hR.opd x) ht
  exact ⟨_, _, by simp [Instr.box, newVar, newRow], newP_ok (P := C.P) hR hn t (by rw [← c1]; simp) c1 c2 he, push_keeps _ _ _⟩
theorem R.grew0 (h : R β s a w g pm) {w' : World} (hg : Keeps (fun _ _ => none) w w') : R β s a w' g pm := by
  have hc : ∀ {b o : Nat}, b < w.heap.size → w'.cell? ⟨b, o, none⟩ = w.cell? ⟨b, o, none⟩ ∧ w'.frozen? ⟨b, o, none⟩ = w.frozen? ⟨b, o, none⟩ := fun {b o} hb => hg.cell b o hb rfl
  have hkp : ∀ b o c, w.cell? ⟨b, o, none⟩ = some c → w'.cell? ⟨b, o, none⟩ = some c := fun b o c h => by rw [(hc (cell_low h)).1]; exact h
  have hk : ∀ b o c, okc β pm b o → w.cell? ⟨b, o, none⟩ = some c → okc β pm b o ∧ w'.cell? ⟨b, o, none⟩ = some c := fun b o c h1 h2 => ⟨h1, hkp _ _ _ h2⟩
  have hsame : ∀ r p, SameGh g g r r p p := fun r p => ⟨rfl, rfl, rfl, rfl, rfl⟩
  exact {
    defers := h.defers, fsz := h.fsz
    tm := fun t => (h.tm t).mono hk (fun r p m hm => ⟨hm, hsame r p⟩)
    blk := fun r p es d m hh => by
      have hb := h.blk r p es d m hh
      refine ⟨hb.siz, hb.nil, hb.len, hb.row, fun hn k hk' => ?_, fun i j e v he hv => ?_⟩
      · obtain ⟨m1, m2, m3⟩ := hb.mine hn k hk'
        have hl := h.low _ _ (show pm (g.blk r p) (g.off r p + k) ≠ none by rw [m1]; simp)
        obtain ⟨c1, c2⟩ := hc hl (o := g.off r p + k)
        exact ⟨m1, by rw [c2]; exact m2, by rw [c1]; exact m3⟩
      · obtain ⟨c, c1, c2⟩ := hb.cell i j e v he hv
        exact ⟨c, hkp _ _ _ c1, CR.mono hk (fun _ => hsame r _) c2⟩
    fresh := h.fresh, own := h.own
    keep := ⟨hg.os.trans h.keep.os, hg.tape.trans h.keep.tape, hg.output.trans h.keep.output, Nat.le_trans h.keep.size hg.size, fun b hb ho => by
      rw [hg.block b (Nat.lt_of_lt_of_le hb h.keep.size) (fun _ => rfl)]; exact h.keep.block b hb ho, fun b o hb ho => by
      obtain ⟨e1, e2⟩ := hc (Nat.lt_of_lt_of_le hb h.keep.size) (o := o)
      obtain ⟨e3, e4⟩ := h.keep.cell b o hb ho
      exact ⟨e1.trans e3, e2.trans e4⟩⟩
    low := fun b o hb => Nat.lt_of_lt_of_le (h.low b o hb) hg.size
    ngnx := h.ngnx, top := h.top }
theorem boxP_ok (h : Is β n s a w) {t : TypeId} {x : Operand} {dst : Option Nat} {K : St → Prop} (he : boxP C s t x dst K) : ∃ z w', (Instr.box t (a.eval x)).run C.P w = .ok z w' ∧ Now β n (a.put dst z) w' K ∧ Keeps (fun _ _ => none) w w' := by
  unfold boxP at he
  split at he
  · rename_i _ vs hx
    split at he
    · obtain ⟨hn, g, pm, hR⟩ := h
      have hv := hR.opd x
      rw [hx] at hv
      generalize a.eval x = y at *
      cases hv with
      | agg _ xs hl hxs =>
        have hkp := push_keeps w xs.toArray t
        have hR2 := hR.grew0 hkp
        refine ⟨.pointer (some ⟨w.heap.size, 0, none⟩), { w with heap := w.heap.push (.cells xs.toArray t) }, by simp [Instr.box, newVar, newRow, Value.cells], putP_ok hR2 hn ?_ he, hkp⟩
        have hfresh : okc β pm w.heap.size = fun o => pm w.heap.size o = none ∧ (β.ok0 w.heap.size o ∨ β.pm0 w.heap.size o ≠ none ∨ β.w0.heap.size ≤ w.heap.size) := rfl
        refine .bxr vs w.heap.size 0 (fun j => xs.getD j undef) (fun j v hv => ?_) (fun j v hv => ?_)
        · have hj : j < xs.length := by rw [hl]; exact (List.getElem?_eq_some_iff.1 hv).1
          refine ⟨⟨?_, .inr (.inr hR.keep.size)⟩, ?_⟩
          · cases hp : pm w.heap.size (0 + j) with
            | none => rfl
            | some q => exact absurd (hR.low w.heap.size (0 + j) (by rw [hp]; simp)) (Nat.lt_irrefl _)
          · rw [(push_new w xs.toArray t _).1, Nat.zero_add, List.getElem?_toArray, List.getD_eq_getElem?_getD, List.getElem?_eq_getElem hj]; rfl
        · have hj : j < xs.length := by rw [hl]; exact (List.getElem?_eq_some_iff.1 hv).1
          have := hxs j v xs[j] hv (List.getElem?_eq_getElem hj)
          rw [List.getD_eq_getElem?_getD, List.getElem?_eq_getElem hj, Option.getD_some]
          exact this.mono (fun b o c h1 h2 => ⟨h1, by rw [(push_cell w (.cells xs.toArray t) (fun e => Nat.lt_irrefl _ (e ▸ cell_low h2)) o).1]; exact h2⟩) (fun r p m hm => ⟨hm, rfl, rfl, rfl, rfl, rfl⟩)
    · exact boxO_ok h he
  · exact boxO_ok h he
theorem allocP_ok (ok : CxOk C) (h : Is β n s a w) {t : TypeId} {dst : Option Nat} {K : St → Prop} (he : allocP C s t dst K) : ∃ z w', (Instr.alloc t true (.tuple #[])).run C.P w = .ok z w' ∧ Now β n (a.put dst z) w' K ∧ Keeps (fun _ _ => none) w w' := by
  unfold allocP at he
  obtain ⟨hn, g, pm, hR⟩ := h
  split at he
  case h_2 => exact he.elim
  rename_i _ i ht
  rw [forceN_eq] at he
  obtain ⟨info, d, z, h1, h2, h3, rfl⟩ := ty_info (ok.ty t i ht)
  refine ⟨_, _, by simp [Instr.alloc, zeroValue, run_typeInfo w h1, h3, newVar, newRow], newP_ok (P := C.P) hR hn (cs := z.cells) t (by simp) (by simp) (fun k u c hu hc => ?_) he, push_keeps _ _ _⟩
  rw [List.getElem?_map] at hu
  have hc' : z.cells.toList[k]? = some c := hc
  rw [hc'] at hu
  obtain rfl := Option.some.inj hu
  exact .sc _
theorem makeP_ok (ok : CxOk C) (h : Is β n s a w) {t : TypeId} {l c : V} {x y : Value} (hl : ∀ g pm, R β s a w g pm → VR w (okc β pm) g s.len l x) (hc : ∀ g pm, R β s a w g pm → VR w (okc β pm) g s.len c y) {dst : Option Nat} {K : St → Prop} (he : makeP C s t l c dst K) :
    ∃ z w', (Instr.makeSlice t x y).run C.P w = .ok z w' ∧ Now β n (a.put dst z) w' K := by
  obtain ⟨hn, g, pm, hR⟩ := h
  unfold makeP at he
  split at he
  case h_2 => exact he.elim
  rename_i _ sz e zz by_ ht
  split at he
  case h_2 => exact he.elim
  rename_i _ ei hei
  split at he
  case h_2 => exact he.elim
  rename_i _ kl l
  split at he
  case h_2 => exact he.elim
  rename_i _ kc c
  split at he
  case h_2 => exact he.elim
  rename_i hz
  obtain ⟨hcond, he⟩ := chkP_some he
  rw [forceN_eq, forceSt_eq] at he
  have hev : evMake C.c C.hz s t (.sc (.int kl l)) (.sc (.int kc c)) = some (.hdr s.nx [], s.newOb ⟨List.replicate l.toNat (zeroV (C.hz e) ei.zero), true, ei.size, false⟩) := by
    unfold evMake
    rw [c_ty, ht]
    dsimp only
    rw [c_ty, hei]
    dsimp only
    rw [hcond]
    dsimp only
    rw [hz]
  obtain ⟨z, w', g', pm', hr, h2, h3⟩ := evMake_ok (C := C.c) ok.ty hR (hl _ _ hR) (hc _ _ hR) hev
  have hsm := St.newO_eq s ⟨List.replicate l.toNat (zeroV (C.hz e) ei.zero), true, ei.size, false⟩
  exact ⟨z, w', hr, putP_ok (h2.same hsm) (hsm.ng.trans hn) (by rw [hsm.len]; exact h3) he⟩

theorem storeP_ok (ok : CxOk C) (h : Is β n s a w) {t : TypeId} {p x : Operand} {dst : Option Nat} {K : St → Prop} (he : storeP C s t p x dst K) :
    ∃ w', (Instr.storeAt t (a.eval p) (a.eval x)).run C.P w = .ok () w' ∧ Now β n (a.put dst undef) w' K := by
  unfold storeP at he
  rw [forceSt_eq] at he
  have h := Is.norm (fun s => s.opd x) true h
  generalize norm (fun s => s.opd x) true s = s1 at *
  split at he
  case h_2 => exact he.elim
  rename_i htell
  split at he
  case h_2 => exact he.elim
  rename_i _ i ht
  obtain ⟨info, dd, z, h1, h2, h3, rfl⟩ := ty_info (ok.ty t i ht)
  split at he
  case h_2 => exact he.elim
  rename_i hsz
  have hsz : (cellsV (s1.opd x)).length = info.size := Nat.eq_of_beq_eq_true hsz
  have hsz' : (a.eval x).cells.size = info.size := by
    obtain ⟨_, g, pm, hR⟩ := h
    obtain ⟨c1, _⟩ := tell (hR.opd x) htell
    rw [← hsz, ← c1]; simp
  -- a row is stored
  have go : ∀ (s1 : St) (r : Nat) (q : Path) (k j : Nat) (o : Ob) (es : List (List V)) (d : Bool) (m : Nat) (e e' : List V) (kf : V → V) (dr : List Nat) (c : Nat), Is β n s1 a w → tellable (s1.opd x) = true → s1.opd p = .ptr r q k j → s1.obj r = some o → s1.at r q = some (es, d, m) → es[k]? = some e →
      rowE s1 o.bx d r q k (cellsV (s1.opd x)) j (C.hz t) e (fun v => v) [] s1.nx = some (e', kf, dr, c) → putP (rowS s1 r q k e' kf dr c) dst .dead K → ∃ w', (Instr.storeAt t (a.eval p) (a.eval x)).run C.P w = .ok () w' ∧ Now β n (a.put dst undef) w' K := by
    intro s1 r q k j o es d m e e' kf dr c hI htell hp ho hat hek hrow hput
    obtain ⟨hn, g, pm, hR⟩ := hI
    obtain ⟨c1, c2⟩ := tell (hR.opd x) htell
    have hpv := hR.opd p
    rw [hp] at hpv
    generalize hpe : a.eval p = pv at hpv
    cases hpv with
    | ptr r q k j l hl hnl =>
      obtain ⟨r1, g', pm', hR', _, _, hng⟩ := hR.rowS (P := C.P) ho hat hek hrow c1 c2
      refine ⟨_, ?_, putP_ok hR' (hng.trans hn) (.dead _) hput⟩
      simp only [Instr.storeAt, Instr.sureAddr, Sem.run_bind, Sem.run_pure, Result.andThen_ok, storeVar, run_size h1]
      rw [if_neg (by simpa using hsz')]
      simpa using r1
  split at he
  case h_2 => exact he.elim
  rename_i _ r q k j hp
  split at he
  case h_2 => exact he.elim
  rename_i _ o ho
  split at he
  · rename_i hb
    obtain ⟨oes, od, om, ob⟩ := o
    dsimp only at he hb
    have hq : q = [] := by
      unfold isBox at hb
      cases q <;> first | rfl | cases hb
    have hob : ob = true := by
      subst hq; exact hb
    subst hq hob
    split at he
    case h_2 => exact he.elim
    rename_i row
    split at he
    case h_2 => exact he.elim
    rename_i hk
    obtain rfl : k = 0 := Nat.eq_of_beq_eq_true hk
    split at he
    case h_2 => exact he.elim
    rename_i _ e' kf dr c hrow
    rw [forceSt_eq] at he
    exact go s1 r [] 0 j _ [row] od om row e' kf dr c h htell hp ho (by unfold St.at; rw [ho]; rfl) rfl hrow he
  · obtain ⟨es, d, m, e0, he⟩ := atP_some he
    have h := Is.normF (fun s => s.opd x) d (cellsV (s1.opd x)).length 0 h
    generalize normF (fun s => s.opd x) d (cellsV (s1.opd x)).length 0 s1 = s2 at *
    dsimp only at he
    split at he
    case h_2 => exact he.elim
    rename_i htell2
    split at he
    case h_2 => exact he.elim
    rename_i _ r2 q2 k2 j2 hp2
    split at he
    case h_2 => exact he.elim
    rename_i _ o2 ho2
    obtain ⟨es2, d2, m2, e2, he⟩ := atP_some he
    obtain ⟨e, hek, he⟩ := optP_some he
    split at he
    case h_2 => exact he.elim
    rename_i _ e' kf dr c hrow
    rw [forceSt_eq] at he
    exact go s2 r2 q2 k2 j2 o2 es2 d2 m2 e e' kf dr c h htell2 hp2 ho2 e2 hek hrow he
end
end Ev
namespace Ev
open Go Go.RowKit
set_option linter.unusedVariables false
set_option linter.unusedSimpArgs false

-- how the cells come about
theorem foldSet (o : Nat) : ∀ (ys : List Value) (k : Nat) (xs : Array Value), o + k + ys.length ≤ xs.size →
    ((ys.zipIdx k).foldl (fun a p => a.setIfInBounds (o + p.2) p.1) xs).size = xs.size ∧ ∀ q, ((ys.zipIdx k).foldl (fun a p => a.setIfInBounds (o + p.2) p.1) xs)[q]? = if o + k ≤ q ∧ q < o + k + ys.length then ys[q - (o + k)]? else xs[q]?
  | [], k, xs, h => ⟨rfl, fun q => by rw [if_neg (by simp)]; rfl⟩
  | y :: ys, k, xs, h => by
    rw [List.zipIdx_cons, List.foldl_cons]
    simp only [List.length_cons] at h
    obtain ⟨h1, h2⟩ := foldSet o ys (k + 1) (xs.setIfInBounds (o + k) y) (by rw [Array.size_setIfInBounds]; omega)
    refine ⟨by rw [h1, Array.size_setIfInBounds], fun q => ?_⟩
    rw [h2 q]
    simp only [List.length_cons]
    by_cases e : q = o + k
    · subst e
      rw [if_neg (by omega), if_pos (by omega), Nat.sub_self]
      simp only [List.getElem?_cons_zero, Array.getElem?_setIfInBounds]
      rw [if_pos trivial, if_pos (by omega)]
    · by_cases e2 : o + (k + 1) ≤ q ∧ q < o + (k + 1) + ys.length
      · rw [if_pos e2, if_pos (by omega)]
        rw [show q - (o + k) = (q - (o + (k + 1))) + 1 by omega, List.getElem?_cons_succ]
      · rw [if_neg e2, if_neg (by omega), Array.getElem?_setIfInBounds_ne (fun e' => e e'.symm)]
def numbered (i : Nat) : List Value → List (Nat × Value)
  | [] => []
  | v :: l => (i, v) :: numbered (i + 1) l
theorem inOrder_num (f : Operand → Value) : ∀ (l : List (Nat × Operand)) (i : Nat), inOrder i l = true → l.map (fun x => (x.1, f x.2)) = numbered i (l.map fun x => f x.2)
  | [], i, h => rfl
  | (k, x) :: l, i, h => by
    unfold inOrder at h
    split at h
    · rename_i e
      obtain rfl : k = i := Nat.eq_of_beq_eq_true e
      rw [List.map_cons, List.map_cons, numbered, inOrder_num f l (k + 1) h]
    · cases h
theorem fillRows (size : Nat) : ∀ (l : List Value) (i0 : Nat) (cells : Array Value), (∀ v ∈ l, v.cells.size = size) → (i0 + l.length) * size ≤ cells.size →
    ∃ cs, Instr.fill (fun i => some (i * size, size)) cells (numbered i0 l) = some cs ∧ cs.size = cells.size ∧ (∀ q, q < i0 * size → cs[q]? = cells[q]?) ∧ ∀ (i j : Nat) (v : Value), l[i]? = some v → j < size → cs[(i0 + i) * size + j]? = v.cells[j]?
  | [], i0, cells, h, hl => ⟨cells, rfl, rfl, fun _ _ => rfl, fun i j v hi => by simp at hi⟩
  | v :: l, i0, cells, h, hl => by
    have hv := h v (List.mem_cons_self ..)
    have hle : i0 * size + size ≤ cells.size := by
      have : (i0 + 1) * size ≤ (i0 + (v :: l).length) * size := Nat.mul_le_mul_right _ (by simp)
      rw [Nat.add_mul, Nat.one_mul] at this; omega
    obtain ⟨f1, f2⟩ := foldSet (i0 * size) v.cells.toList 0 cells (by simp [hv]; omega)
    obtain ⟨cs, h1, h2, h3, h4⟩ := fillRows size l (i0 + 1) (List.foldl (fun a p => a.setIfInBounds (i0 * size + p.2) p.1) cells (v.cells.toList.zipIdx 0)) (fun u hu => h u (List.mem_cons_of_mem _ hu)) (by
      rw [f1]; refine Nat.le_trans (Nat.mul_le_mul_right _ ?_) hl; simp; omega)
    refine ⟨cs, ?_, h2.trans f1, fun q hq => ?_, fun i j u hu hj => ?_⟩
    · rw [numbered, Instr.fill]
      dsimp only
      rw [if_neg (by rw [hv]; simp; omega), ← h1]
      congr 1
      rw [← Array.foldl_toList, Array.toList_zipIdx]
    · rw [h3 q (by rw [Nat.add_mul]; omega), f2 q, if_neg (by omega)]
    · cases i with
      | zero =>
        obtain rfl := Option.some.inj (show some v = some u from hu)
        rw [Nat.add_zero, h3 _ (by rw [Nat.add_mul]; omega), f2, if_pos (by simp [hv]; omega)]
        rw [show i0 * size + j - (i0 * size + 0) = j by omega]
        simp
      | succ i =>
        rw [show i0 + (i + 1) = i0 + 1 + i by omega]
        exact h4 i j u hu hj

section
variable {β : Base} {s : St} {a : Act} {w : World} {g : Gh} {pm : Nat → Nat → Option (Nat × Path)} {C : Cx} {n : Nat}

theorem rowS_obj {r : Nat} {p : Path} {o : Ob} {bx d : Bool} {i j : Nat} {e : List V} {vs : List V} {hs : List Nat} (ho : s.obj r = some o) {e' : List V} {kf : V → V} {dr : List Nat} {c : Nat}
    (hr : rowE s bx d r p i vs j hs e (fun v => v) [] s.nx = some (e', kf, dr, c)) : (rowS s r p i e' kf dr c).obj r = some { o with es := putAt (fun es => es.set i e') o.es p } := by
  obtain ⟨hkf, hnr⟩ := rowE_inv hr rfl rfl
  rw [(rowS_eq s r p i e' kf dr c).obj]
  unfold rowSt
  refine putOb_obj ?_
  show look none (dropAll dr s.ob) r = some o
  rw [look_dropAll, hnr, if_neg (by simp)]; exact ho

theorem rowsP_ok {P : Program} {r m len : Nat} {d : Bool} {hs : List Nat} {K : St → Prop} {b0 : Nat} : ∀ (l : List Operand) (i : Nat) (s : St) (g : Gh) (pm : Nat → Nat → Option (Nat × Path)), R β s a w g pm → s.ng = n →
    (∃ es, s.obj r = some ⟨es, d, m, false⟩ ∧ es.length = len ∧ ∀ q, i ≤ q → q < len → es[q]? = some (List.replicate m .dead)) → g.blk r [] = b0 → g.off r [] = 0 → g.sz r [] = m → i + l.length ≤ len →
    (∀ (k : Nat) (x : Operand), l[k]? = some x → ∀ (j : Nat) (c : Value), (a.eval x).cells.toList[j]? = some c → w.cell? ⟨b0, (i + k) * m + j, none⟩ = some c) → rowsP s r m d hs l i K →
    ∃ s' g' pm', R β s' a w g' pm' ∧ s'.ng = n ∧ (∃ es, s'.obj r = some ⟨es, d, m, false⟩ ∧ es.length = len) ∧ SameGh g g' r r [] [] ∧ K s'
  | [], i, s, g, pm, hR, hn, ⟨es, h1, h2, _⟩, _, _, _, _, _, hk => ⟨s, g, pm, hR, hn, ⟨es, h1, h2⟩, ⟨rfl, rfl, rfl, rfl, rfl⟩, hk⟩
  | x :: l, i, s, g, pm, hR, hn, ⟨es, h1, h2, h3⟩, hb, ho, hz, hlen, hc, hk => by
    unfold rowsP at hk
    split at hk
    case h_2 => exact hk.elim
    rename_i htell
    split at hk
    case h_2 => exact hk.elim
    rename_i hm
    have hm : (cellsV (s.opd x)).length = m := Nat.eq_of_beq_eq_true hm
    split at hk
    case h_2 => exact hk.elim
    rename_i _ e' kf dr c hrow
    rw [forceSt_eq] at hk
    have hlt : i < len := by simp only [List.length_cons] at hlen; omega
    obtain ⟨c1, c2⟩ := tell (hR.opd x) htell
    have hat : s.at r [] = some (es, d, m) := by unfold St.at; rw [h1]; rfl
    obtain ⟨_, g', pm', hR', hS, _, hng⟩ := hR.rowS (P := P) h1 hat (i := i) (h3 i (Nat.le_refl _) hlt) hrow c1 c2
    rw [setCells_self (fun k cc hcc => by
      rw [hb, ho, hz]
      have := hc 0 x rfl k cc hcc
      rw [← this, Nat.add_zero, Nat.zero_add, Nat.add_zero])] at hR'
    obtain ⟨e1, e2, e3, e4, e5⟩ := hS
    obtain ⟨s', g2, pm2, q1, q2, q3, q4, q5⟩ := rowsP_ok (P := P) (len := len) (b0 := b0) l (i + 1) _ g' pm' hR' (hng.trans hn) ⟨es.set i e', rowS_obj h1 hrow, by rw [List.length_set]; exact h2, fun q hq hq' => by
      rw [List.getElem?_set_ne (by omega)]; exact h3 q (by omega) hq'⟩ (e1.trans hb) (e2.trans ho) (e3.trans hz) (by simp only [List.length_cons] at hlen; omega) (fun k y hy j cc hcc => by
      have := hc (k + 1) y hy j cc hcc
      rw [show i + 1 + k = i + (k + 1) by omega]; exact this) hk
    exact ⟨s', g2, pm2, q1, q2, q3, ⟨q4.1.trans e1, q4.2.1.trans e2, q4.2.2.1.trans e3, q4.2.2.2.1.trans e4, q4.2.2.2.2.trans e5⟩, q5⟩

theorem Is.normAll (d : Bool) : ∀ (l : List Operand) {s : St}, Is β n s a w → Is β n (normAll d l s) a w
  | [], s, h => h
  | x :: l, s, h => by
    unfold Ev.normAll
    rw [forceSt_eq]
    exact Is.normAll d l (Is.norm _ d h)
theorem forceOb_ok {s : St} {r : Nat} {K : St → Prop} (h : forceOb s r K) : ∃ s', Same s s' ∧ K s' := by
  unfold forceOb at h
  split at h
  · rename_i es d m b ho
    rw [forceR_eq] at h
    obtain ⟨tm, ob, nx, fz, ng⟩ := s
    refine ⟨⟨tm, setO r (some ⟨es, d, m, b⟩) ob, nx, fz, ng⟩, ⟨fun _ => rfl, fun q => ?_, rfl, rfl, rfl⟩, h⟩
    show look none (setO r _ ob) q = look none ob q
    rw [look_setO]
    split
    · rename_i e; subst e; exact ho.symm
    · rfl
  · exact ⟨s, ⟨fun _ => rfl, fun _ => rfl, rfl, rfl, rfl⟩, h⟩
theorem run_bSlice {P : Program} (w : World) (t e : TypeId) (len : Nat) (parts : Array (Nat × Value)) (ie : TypeInfo) (z : Value) (hu : P.underlying t = some (.slice e)) (hie : P.info? e = some ie) (hz : ie.zero = some z) (hsmall : len * ie.size ≤ 16777216)
    {cells : Array Value} (hf : ∀ z0 : Array Value, z0.size = len * ie.size → Instr.fill (fun i => some (i * ie.size, ie.size)) z0 parts.toList = some cells) :
    (Instr.buildSlice t len parts).run P w = .ok (.slice (some ⟨w.heap.size, 0, none⟩) len len) { w with heap := w.heap.push (.cells cells e) } := by
  have h1 : ¬ (len * ie.size > 2 ^ 24) := by omega
  unfold Instr.buildSlice
  simp only [Sem.run_bind, run_underlying hu, Result.andThen_ok, run_size hie, h1, if_false, Sem.run_pure]
  by_cases h0 : len * ie.size = 0
  · simp only [h0, if_true, Sem.run_bind, Sem.run_pure, Result.andThen_ok]
    rw [hf _ (by simp [h0])]
    simp [newRow]
  · simp only [h0, if_false, Sem.run_bind, Sem.run_pure, Result.andThen_ok, zeroValue, run_typeInfo w hie, hz]
    rw [hf _ (by simp)]
    simp [newRow]

theorem buildSliceP_ok (ok : CxOk C) (h : Is β n s a w) {t : TypeId} {len : Nat} {ps : Array (Nat × Operand)} {dst : Option Nat} {K : St → Prop} (he : buildSliceP C s t len ps.toList dst K) :
    ∃ z w', (Instr.buildSlice t len (ps.map fun (i, x) => (i, a.eval x))).run C.P w = .ok z w' ∧ Now β n (a.put dst z) w' K ∧ Keeps (fun _ _ => none) w w' := by
  unfold buildSliceP at he
  split at he
  case h_2 => exact he.elim
  rename_i _ sz e zz by_ ht
  split at he
  case h_2 => exact he.elim
  rename_i _ ei hei
  obtain ⟨info, d, z, h1, h2, h3, h4⟩ := ty_info (ok.ty t _ ht)
  simp only [TyI.mk.injEq] at h4
  obtain rfl := knOf_slice h4.2.1.symm
  obtain ⟨einfo, ed, ez, e1, e2, e3, rfl⟩ := ty_info (ok.ty e _ hei)
  dsimp only at he
  split at he
  case h_2 => exact he.elim
  rename_i hord
  split at he
  case h_2 => exact he.elim
  rename_i hlen
  have hlen : ps.toList.length = len := Nat.eq_of_beq_eq_true hlen
  split at he
  case h_2 => exact he.elim
  rename_i hsmall
  have hsmall : len * einfo.size ≤ 16777216 := Nat.le_of_ble_eq_true hsmall
  split at he
  case h_2 => exact he.elim
  rw [forceSt_eq] at he
  have h := Is.normAll (dpOf C e) (ps.toList.map (·.2)) h
  generalize normAll (dpOf C e) (ps.toList.map (·.2)) s = s1 at *
  obtain ⟨hn, g, pm, hR⟩ := h
  rw [forceN_eq] at he
  split at he
  case h_1 => exact he.elim
  rename_i hall
  have hsz : ∀ x ∈ ps.toList.map (·.2), (a.eval x).cells.size = einfo.size := fun x hx => by
    have := allB_all hall x hx
    split at this
    · rename_i ht
      obtain ⟨c1, _⟩ := tell (hR.opd x) ht
      have : (cellsV (s1.opd x)).length = einfo.size := Nat.eq_of_beq_eq_true this
      rw [← this, ← c1]; simp
    · cases this
  have hnum := inOrder_num a.eval ps.toList 0 hord
  generalize hvals : ps.toList.map (fun x => a.eval x.2) = vals at hnum
  have hvl : vals.length = len := by rw [← hvals, List.length_map]; exact hlen
  have hvs : ∀ v ∈ vals, v.cells.size = einfo.size := fun v hv => by
    rw [← hvals] at hv
    obtain ⟨x, hx, rfl⟩ := List.mem_map.1 hv
    exact hsz _ (List.mem_map.2 ⟨x, hx, rfl⟩)
  obtain ⟨cs, f1, f2, _, f4⟩ := fillRows einfo.size vals 0 (Array.replicate (len * einfo.size) undef) hvs (by simp [hvl])
  have hfill : ∀ z0 : Array Value, z0.size = len * einfo.size → Instr.fill (fun i => some (i * einfo.size, einfo.size)) z0 (ps.map fun (i, x) => (i, a.eval x)).toList = some cs := fun z0 hz0 => by
    obtain ⟨cs', g1, g2, _, g4⟩ := fillRows einfo.size vals 0 z0 hvs (by rw [hvl, hz0, Nat.zero_add]; exact Nat.le_refl _)
    rw [Array.toList_map]
    rw [show ps.toList.map (fun (i, x) => (i, a.eval x)) = numbered 0 vals from hnum, g1]
    congr 1
    apply Array.ext
    · rw [g2, f2, hz0]; simp
    · intro q hq hq'
      have hq : q < len * einfo.size := by rw [← hz0, ← g2]; exact hq
      have hpos : 0 < einfo.size := Nat.pos_of_ne_zero (fun e => by rw [e] at hq; omega)
      have hi : q / einfo.size < len := Nat.div_lt_of_lt_mul (by rw [Nat.mul_comm]; exact hq)
      have hj : q % einfo.size < einfo.size := Nat.mod_lt _ hpos
      have e1 := g4 (q / einfo.size) (q % einfo.size) vals[q / einfo.size] (List.getElem?_eq_getElem (by omega)) hj
      have e2 := f4 (q / einfo.size) (q % einfo.size) vals[q / einfo.size] (List.getElem?_eq_getElem (by omega)) hj
      rw [Nat.zero_add, Nat.div_add_mod'] at e1 e2
      have := e1.trans e2.symm
      rw [Array.getElem?_eq_getElem (by omega), Array.getElem?_eq_getElem (by omega)] at this
      exact Option.some.inj this
  have hrun := run_bSlice (P := C.P) w t e len _ einfo ez h2 e1 e3 hsmall hfill
  refine ⟨_, _, hrun, ?_, push_keeps _ _ _⟩
  obtain ⟨h0, hV1⟩ := hR.allocZ (es := List.replicate len (List.replicate einfo.size .dead)) (d := dpOf C e) (bx := false) (n := einfo.size) (cap := len) (fun _ => 0) (cs := cs) e (fun i e hi => by
      rw [List.getElem?_replicate] at hi
      split at hi
      · obtain rfl := Option.some.inj hi; simp
      · cases hi) (by simp) (by rw [f2]; simp) (fun i j e u hi hj => by
      rw [List.getElem?_replicate] at hi
      split at hi
      case isFalse => cases hi
      rename_i hil
      obtain rfl := Option.some.inj hi
      have hj' := (List.getElem?_eq_some_iff.1 hj).1
      rw [List.length_replicate] at hj'
      rw [List.getElem?_replicate, if_pos hj'] at hj
      obtain rfl := Option.some.inj hj
      have : i * einfo.size + j < cs.size := by
        rw [f2]
        have : (i + 1) * einfo.size ≤ len * einfo.size := Nat.mul_le_mul_right _ hil
        rw [Nat.add_mul, Nat.one_mul] at this
        simp; omega
      exact ⟨cs[i * einfo.size + j], Array.getElem?_eq_getElem this, .inl ⟨trivial, .dead _⟩⟩)
  have hsm := St.newO_eq s1 ⟨List.replicate len (List.replicate einfo.size .dead), dpOf C e, einfo.size, false⟩
  have h1 := h0.same hsm
  have hobj : (s1.newO ⟨List.replicate len (List.replicate einfo.size .dead), dpOf C e, einfo.size, false⟩).obj s1.nx = some ⟨List.replicate len (List.replicate einfo.size .dead), dpOf C e, einfo.size, false⟩ := by
    rw [hsm.obj]; exact look_cons_eq _ _ _ _
  obtain ⟨s', g', pm', q1, q2, ⟨es, q3, q3'⟩, q4, q5⟩ := rowsP_ok (P := C.P) (len := len) (b0 := w.heap.size) _ 0 _ _ _ h1 (hsm.ng.trans hn) ⟨_, hobj, by simp, fun q _ hq => by rw [List.getElem?_replicate, if_pos hq]⟩ (by simp [newGh]) (by simp [newGh]) (by simp [newGh, newSz]) (by simp at hlen ⊢; omega) (fun k x hx j c hc => by
    rw [(push_new w cs e _).1, Nat.zero_add]
    rw [List.getElem?_map] at hx
    cases hp : ps.toList[k]? with
    | none => rw [hp] at hx; cases hx
    | some px =>
      rw [hp] at hx
      obtain rfl := Option.some.inj hx
      have hv : vals[k]? = some (a.eval px.2) := by rw [← hvals, List.getElem?_map, hp]; rfl
      have hj : j < einfo.size := by
        have h1 := (List.getElem?_eq_some_iff.1 hc).1
        have h2 := hvs _ (List.mem_of_getElem? hv)
        rw [← h2]; simpa using h1
      have := f4 k j _ hv hj
      rw [Nat.zero_add] at this
      rw [this]; simpa using hc) he
  obtain ⟨s2, hs2, hk2⟩ := forceOb_ok q5
  rw [forceSt_eq] at hk2
  have hlen' : s2.len s1.nx [] = some len := by
    rw [hs2.len]; unfold St.len St.at; rw [q3]; simp [sub, q3']
  refine putP_ok (q1.same hs2) (hs2.ng.trans q2) (.hdr s1.nx [] len _ hlen' (.inr ⟨by rw [q4.2.2.2.2]; simp [newGh, newNl], _, _, rfl, Nat.le_refl _, fun _ => ?_, fun _ => ⟨?_, ?_⟩⟩)) hk2
  · rw [q4.1, q4.2.1, Nat.zero_mul]; simp [newGh]
  · rw [q4.1, q4.2.1]; simp [newGh]
  · rw [q4.2.2.2.1]; simp [newGh, newCap]
end
end Ev
namespace Ev
open Go Go.RowKit
set_option linter.unusedVariables false
set_option linter.unusedSimpArgs false
section
variable {β : Base} {s : St} {a : Act} {w : World} {g : Gh} {pm : Nat → Nat → Option (Nat × Path)} {C : Cx} {n : Nat}

theorem RefHdr.one {r : Nat} {p : Path} {o len : Nat} {c : Value} (h : RefHdr g r p o len c) : c.oneCell' = true := by
  obtain ⟨A, cap, rfl⟩ := h.len; rfl
theorem CR.one {ok : Nat → Nat → Prop} {r : Nat} {p : Path} {d own : Bool} {i j : Nat} {v : V} {c : Value} (h : CR w ok g r p d i j v c) (hv : OneV d own v) : c.oneCell' = true := by
  cases v with
  | sc x => have h : VR w ok noGh noAt (.sc x) c := h; rw [h.sc_inv]; exact hv
  | sl n es =>
    cases d with
    | true => exact RefHdr.one h
    | false => obtain ⟨A, cap, rfl, _⟩ := SR.sl_len h; rfl
  | own => exact RefHdr.one h
  | _ => exact hv.elim
theorem CR.copied {ok : Nat → Nat → Prop} {r r' : Nat} {p p' : Path} {d : Bool} {i j i' j' : Nat} {v : V} {c : Value} (h : CR w ok g r p d i j v c) (hv : OneV d false v) : Plain d v ∧ CR w ok noGh r' p' d i' j' v c := by
  cases v with
  | sc x => exact ⟨trivial, h⟩
  | sl n es =>
    rcases hv with hv | hv
    · cases hv
    · subst hv; exact ⟨rfl, h⟩
  | own => cases hv
  | _ => exact hv.elim
theorem SR.copied {ok : Nat → Nat → Prop} {r' : Nat} {p' : Path} {d : Bool} {i' j' : Nat} {v : V} {c : Value} (h : SR w ok v c) (hv : OneV d false v) : c.oneCell' = true ∧ Plain d v ∧ CR w ok noGh r' p' d i' j' v c := by
  cases v with
  | sc x =>
    obtain rfl := SR.sc_inv h
    exact ⟨hv, trivial, VR.sc _⟩
  | sl n es =>
    rcases hv with hv | hv
    · cases hv
    · subst hv
      obtain ⟨A, cap, rfl, _⟩ := SR.sl_len h
      exact ⟨rfl, rfl, h⟩
  | own => cases hv
  | _ => exact hv.elim

theorem src_cells {P : Program} {u e' : TypeId} {d : Bool} {ok : Nat → Nat → Prop} {rows : List (List V)} {z b o m cap : Nat} (hu : P.underlying u = some (.slice e')) (hlen : rows.length = m) (hrow : ∀ (i : Nat) (e : List V), rows[i]? = some e → e.length = z)
    (hcell : ∀ (i j : Nat) (e : List V) (v : V), rows[i]? = some e → e[j]? = some v → ∃ c, w.cell? ⟨b, o + (i * z + j), none⟩ = some c ∧ c.oneCell' = true ∧ Plain d v ∧ CR w ok noGh 0 [] d i j v c) :
    ∃ news, AppSrc P w u z (.slice (some ⟨b, o, none⟩) m cap) m news ∧ RowsOk w ok d z rows news ∧ ∀ k, k < m * z → news[k]? = w.cell? ⟨b, o + k, none⟩ := by
  have hk : ∀ k, k < m * z → ∃ c, w.cell? ⟨b, o + k, none⟩ = some c ∧ c.oneCell' = true := fun k hk => by
    have hpos : 0 < z := Nat.pos_of_ne_zero (fun e => by rw [e] at hk; omega)
    have hi : k / z < m := Nat.div_lt_of_lt_mul (by rw [Nat.mul_comm]; exact hk)
    have hj : k % z < z := Nat.mod_lt _ hpos
    have hr := List.getElem?_eq_getElem (show k / z < rows.length by omega)
    have hl := hrow _ _ hr
    obtain ⟨c, c1, c2, _⟩ := hcell (k / z) (k % z) _ _ hr (List.getElem?_eq_getElem (show k % z < _ by omega))
    rw [Nat.div_add_mod'] at c1
    exact ⟨c, c1, c2⟩
  have hget : ∀ k, k < m * z → ((List.range (m * z)).map fun k => (w.cell? ⟨b, o + k, none⟩).getD undef)[k]? = w.cell? ⟨b, o + k, none⟩ := fun k hk' => by
    obtain ⟨c, c1, _⟩ := hk k hk'
    rw [List.getElem?_map, List.getElem?_range hk', c1]; simp [c1]
  refine ⟨(List.range (m * z)).map fun k => (w.cell? ⟨b, o + k, none⟩).getD undef, AppSrc.slice hu b o m cap _ (by simp) (fun j v hj => ?_) (fun v hv => ?_), ⟨hrow, fun i j e v he hv => ?_⟩, hget⟩
  · have hlt : j < m * z := by have := (List.getElem?_eq_some_iff.1 hj).1; simpa using this
    rw [← hget j hlt]; exact hj
  · obtain ⟨k, hk1, rfl⟩ := List.mem_map.1 hv
    have hk1 : k < m * z := by simpa using hk1
    obtain ⟨c, c1, c2⟩ := hk k hk1
    rw [c1]; exact c2
  · obtain ⟨c, c1, _, c2, c3⟩ := hcell i j e v he hv
    have hi : i < m := by have := (List.getElem?_eq_some_iff.1 he).1; omega
    have hj : j < z := by have := (List.getElem?_eq_some_iff.1 hv).1; rw [hrow i e he] at this; exact this
    have : i * z + j < m * z := by
      have : (i + 1) * z ≤ m * z := Nat.mul_le_mul_right _ hi
      rw [Nat.add_mul, Nat.one_mul] at this; omega
    exact ⟨c2, c, by rw [hget _ this]; exact c1, c3⟩
theorem src_nil {P : Program} {u e' : TypeId} {d : Bool} {ok : Nat → Nat → Prop} {z : Nat} (hu : P.underlying u = some (.slice e')) (A : Option Addr) (cap : Nat) :
    ∃ news, AppSrc P w u z (.slice A 0 cap) 0 news ∧ RowsOk w ok d z [] news := ⟨[], AppSrc.empty hu A cap, fun i e h => by simp at h, fun i j e v h => by simp at h⟩

/-- A part of what stands at a place. -/
theorem src_at {P : Program} {u e' : TypeId} (h : R β s a w g pm) (hu : P.underlying u = some (.slice e')) {q : Nat} {p : Path} {es : List (List V)} {d : Bool} {z : Nat} (hat : s.at q p = some (es, d, z)) {o len : Nat} (hol : o + len ≤ es.length) {c : Value} (hc : RefHdr g q p o len c)
    (hone : OneEs d false ((es.drop o).take len)) : ∃ news, AppSrc P w u z c ((es.drop o).take len).length news ∧ RowsOk w (okc β pm) d z ((es.drop o).take len) news := by
  have hl : ((es.drop o).take len).length = len := by simp; omega
  rw [hl]
  have hb := h.blk q p es d z hat
  rcases Nat.eq_zero_or_pos len with h0 | hp
  · subst h0
    obtain ⟨A, cap, rfl⟩ := hc.len
    rw [List.take_zero]
    exact src_nil hu A cap
  · obtain ⟨_, cap', rfl⟩ := hc.pos hp
    have hget : ∀ (i : Nat) (e : List V), ((es.drop o).take len)[i]? = some e → es[o + i]? = some e := fun i e he => by
      rw [List.getElem?_take] at he
      split at he
      · rw [List.getElem?_drop] at he; exact he
      · cases he
    obtain ⟨news, h1, h2, _⟩ := src_cells (w := w) (d := d) (ok := okc β pm) (b := g.blk q p) (o := g.off q p + o * g.sz q p) (cap := cap') hu hl (fun i e he => by rw [hb.row _ e (hget i e he), hb.siz]) (fun i j e v he hv => by
      obtain ⟨c, c1, c2⟩ := hb.cell _ j e v (hget i e he) hv
      have ho := hone e (List.mem_of_getElem? he) v (List.mem_of_getElem? hv)
      refine ⟨c, ?_, c2.one ho, c2.copied ho⟩
      rw [← c1]; congr 2
      rw [hb.siz, Nat.add_mul]; omega)
    exact ⟨news, h1, h2⟩
/-- What is only read. -/
theorem src_sh {P : Program} {u e' : TypeId} {ok : Nat → Nat → Prop} {d : Bool} {z : Nat} {es : List (List V)} {c : Value} (hu : P.underlying u = some (.slice e')) (h : SR w ok (.sl z es) c) (hone : OneEs d false es) : ∃ news, AppSrc P w u z c es.length news ∧ RowsOk w ok d z es news := by
  generalize hv : V.sl z es = v at h
  cases h with
  | nil n A cap =>
    obtain ⟨rfl, rfl⟩ := V.sl.inj hv
    exact src_nil hu A cap
  | sl sz es' b o cap vals hs h1 h2 hc =>
    obtain ⟨rfl, rfl⟩ := V.sl.inj hv
    obtain ⟨news, g1, g2, _⟩ := src_cells (w := w) (d := d) (ok := ok) (b := b) (o := o) (cap := cap) hu rfl hs (fun i j e v he hv => by
      have ho := hone e (List.mem_of_getElem? he) v (List.mem_of_getElem? hv)
      obtain ⟨q1, q2, q3⟩ := (h2 i j e v he hv).copied (r' := 0) (p' := []) (i' := i) (j' := j) ho
      refine ⟨vals i j, ?_, q1, q2, q3⟩
      rw [← (h1 i j e v he hv).2]; congr 2; omega)
    exact ⟨news, g1, g2⟩
  | any _ _ h => subst hv; cases h
  | _ => cases hv
theorem src_str {P : Program} {u : TypeId} {ok : Nat → Nat → Prop} {d : Bool} (hu : P.underlying u = some .string) (b : ByteArray) : ∃ news, AppSrc P w u 1 (.string b) (strRows b).length news ∧ RowsOk w ok d 1 (strRows b) news := by
  have hl : (strRows b).length = b.size := by unfold strRows; simp
  refine ⟨_, by rw [hl]; exact AppSrc.string hu b, fun i e he => ?_, fun i j e v he hv => ?_⟩
  · unfold strRows at he
    rw [List.getElem?_map] at he
    cases hb : b.data.toList[i]? with
    | none => rw [hb] at he; cases he
    | some x => rw [hb] at he; obtain rfl := Option.some.inj he; rfl
  · unfold strRows at he
    rw [List.getElem?_map] at he
    cases hb : b.data.toList[i]? with
    | none => rw [hb] at he; cases he
    | some x =>
      rw [hb] at he
      obtain rfl := Option.some.inj he
      cases j with
      | succ j => cases hv
      | zero =>
        obtain rfl := Option.some.inj hv
        refine ⟨trivial, .int .u8 x.toNat, ?_, VR.sc _⟩
        unfold Lib.strCells
        rw [List.getElem?_map, Nat.mul_one, Nat.add_zero, hb]; rfl

theorem srcP_ok (ok : CxOk C) (h : R β s a w g pm) {ty u : TypeId} {d : Bool} {z r : Nat} {v : V} {y : Value} (hv : VR w (okc β pm) g s.len v y) {K : List (List V) → Option Nat → Prop} (he : srcP C s ty d z r u v K) :
    (∃ rows news, K rows none ∧ AppSrc C.P w u z y rows.length news ∧ RowsOk w (okc β pm) d z rows news) ∨
    ∃ q o e', K o.es (some q) ∧ v = .hdr q [] ∧ s.obj q = some o ∧ o.sz = z ∧ o.deep = d ∧ o.bx = false ∧ s.ng ≤ q ∧ q ≠ r ∧ OneEs d true o.es ∧ C.P.underlying u = some (.slice e') := by
  unfold srcP at he
  have at1 : ∀ {q : Nat} {p : Path} {es : List (List V)} {d' : Bool} {m : Nat} {e' : TypeId}, C.P.underlying u = some (.slice e') → v = .hdr q p → s.at q p = some (es, d', m) → (Nat.beq m z && (d' == d)) = true → OneEs d false es → ∃ news, AppSrc C.P w u z y es.length news ∧ RowsOk w (okc β pm) d z es news := fun {q p es d' m e'} hu hvq hat hmd hone => by
    rw [Bool.and_eq_true] at hmd
    obtain ⟨hm, hd⟩ := hmd
    have hm := Nat.eq_of_beq_eq_true hm
    have hd : d' = d := by simpa using hd
    subst hm hd hvq
    cases hv with
    | hdr _ _ k c hk hc =>
      have hkl : k = es.length := by unfold St.len at hk; rw [hat] at hk; exact (Option.some.inj hk).symm
      subst hkl
      have hall : (es.drop 0).take es.length = es := by simp
      have := src_at (P := C.P) h hu hat (o := 0) (len := es.length) (by omega) hc (by rw [hall]; exact hone)
      rw [hall] at this; exact this
  split at he
  case h_3 => exact he.elim
  · rename_i _ sz zz by_ ht
    obtain ⟨info, dd, z0, h1, h2, h3, h4⟩ := ty_info (ok.ty u _ ht)
    simp only [TyI.mk.injEq] at h4
    obtain rfl := knOf_str h4.2.1.symm
    split at he
    case h_2 => exact he.elim
    rename_i b
    split at he
    case h_2 => exact he.elim
    rename_i hz
    obtain rfl : z = 1 := Nat.eq_of_beq_eq_true hz
    obtain rfl := hv.sc_inv
    obtain ⟨news, n1, n2⟩ := src_str (P := C.P) (w := w) (ok := okc β pm) (d := d) h2 b
    exact .inl ⟨_, news, he, n1, n2⟩
  · rename_i _ sz e zz by_ ht
    obtain ⟨info, dd, z0, h1, h2, h3, h4⟩ := ty_info (ok.ty u _ ht)
    simp only [TyI.mk.injEq] at h4
    obtain rfl := knOf_slice h4.2.1.symm
    split at he
    case h_5 => exact he.elim
    · obtain rfl := hv.sc_inv
      obtain ⟨news, n1, n2⟩ := src_nil (P := C.P) (w := w) (ok := okc β pm) (d := d) (z := z) h2 none 0
      exact .inl ⟨[], news, he, n1, n2⟩
    · rename_i m es
      split at he
      case h_2 => exact he.elim
      rename_i hm
      obtain rfl : m = z := Nat.eq_of_beq_eq_true hm
      cases hv with
      | sh _ _ _ hs =>
        obtain ⟨news, n1, n2⟩ := src_sh (P := C.P) (d := d) h2 hs he.1
        exact .inl ⟨_, news, he.2, n1, n2⟩
    · rename_i q p o l
      obtain ⟨es, d', m, e0, he2⟩ := atP_some he
      split at he2
      case h_2 => exact he2.elim
      rename_i hmd
      rw [Bool.and_eq_true] at hmd
      obtain ⟨hm, hd⟩ := hmd
      have hm := Nat.eq_of_beq_eq_true hm
      have hd : d' = d := by simpa using hd
      subst hm hd
      cases hv with
      | part _ _ _ _ k c hk hkl hc =>
        have hkk : k = es.length := by unfold St.len at hk; rw [e0] at hk; exact (Option.some.inj hk).symm
        subst hkk
        obtain ⟨news, n1, n2⟩ := src_at (P := C.P) h h2 e0 hkl hc he2.1
        exact .inl ⟨_, news, he2.2, n1, n2⟩
    · rename_i q p
      split at he
      · split at he
        · obtain ⟨es, d', m, e0, he⟩ := atP_some he
          split at he
          case h_2 => exact he.elim
          rename_i hmd
          obtain ⟨news, n1, n2⟩ := at1 h2 rfl e0 hmd he.1
          exact .inl ⟨_, news, he.2, n1, n2⟩
        · split at he
          case h_2 => exact he.elim
          rename_i _ o ho
          split at he
          case h_2 => exact he.elim
          rename_i hc
          simp only [Bool.and_eq_true] at hc
          obtain ⟨c1, c2, c3, c4, c5⟩ := hc
          exact .inr ⟨q, o, e, he.2, rfl, ho, Nat.eq_of_beq_eq_true c1, by simpa using c2, by simpa using c3, Nat.le_of_ble_eq_true c4, (fun e => by rw [e, Nat.beq_refl] at c5; cases c5), he.1, h2⟩
      · obtain ⟨es, d', m, e0, he⟩ := atP_some he
        split at he
        case h_2 => exact he.elim
        rename_i hmd
        obtain ⟨news, n1, n2⟩ := at1 h2 rfl e0 hmd he.1
        exact .inl ⟨_, news, he.2, n1, n2⟩

theorem appRoot_ok (h : Is β n s a w) {e z : Nat} {x : Operand} {K : St → Nat → Prop} (he : appRoot C s e z x K) :
    ∃ s' r g pm, R β s' a w g pm ∧ s'.ng = n ∧ K s' r ∧ ∀ o, s'.obj r = some o → RefHdr g r [] 0 o.es.length (a.eval x) := by
  unfold appRoot at he
  rw [forceSt_eq] at he
  have h := h.normD (fun s => s.opd x) 1 0
  generalize normD (fun s => s.opd x) 1 0 s = s1 at *
  obtain ⟨hn, g, pm, hR⟩ := h
  have hx := hR.opd x
  split at he
  · rename_i hv
    rw [forceN_eq] at he
    rw [hv] at hx
    have hxe := hx.sc_inv
    obtain ⟨h1, h2, h3⟩ := hR.newNil (dpOf C e) false z
    have hsm := St.newO_eq s1 ⟨[], dpOf C e, z, false⟩
    refine ⟨_, _, _, _, h1.same hsm, hsm.ng.trans hn, he, fun o ho => ?_⟩
    rw [hsm.obj] at ho
    have : (s1.newOb ⟨[], dpOf C e, z, false⟩).obj s1.nx = some ⟨[], dpOf C e, z, false⟩ := look_cons_eq _ _ _ _
    rw [this] at ho
    obtain rfl := Option.some.inj ho
    rw [hxe]; exact h3
  · rename_i r hv
    rw [hv] at hx
    refine ⟨_, _, _, _, hR, hn, he, fun o ho => ?_⟩
    generalize a.eval x = c at hx
    cases hx with
    | hdr _ _ k c hk hc =>
      have : k = o.es.length := by unfold St.len St.at at hk; rw [ho] at hk; exact (Option.some.inj hk).symm
      rw [← this]; exact hc
  · exact he.elim

theorem deadRows {ok : Nat → Nat → Prop} {d : Bool} {z : Nat} {es : List (List V)} {news : List Value} (hrow : ∀ (i : Nat) (e : List V), es[i]? = some e → e.length = z) (hn : news.length = es.length * z) :
    RowsOk w ok d z (es.map fun e => e.map fun _ => V.dead) news := by
  refine ⟨fun i e he => ?_, fun i j e v he hv => ?_⟩
  · rw [List.getElem?_map] at he
    cases h : es[i]? with
    | none => rw [h] at he; cases he
    | some e0 => rw [h] at he; obtain rfl := Option.some.inj he; rw [List.length_map]; exact hrow i e0 h
  · rw [List.getElem?_map] at he
    cases h : es[i]? with
    | none => rw [h] at he; cases he
    | some e0 =>
      rw [h] at he
      obtain rfl := Option.some.inj he
      rw [List.getElem?_map] at hv
      cases h' : e0[j]? with
      | none => rw [h'] at hv; cases hv
      | some v0 =>
        rw [h'] at hv
        obtain rfl := Option.some.inj hv
        have hi := (List.getElem?_eq_some_iff.1 h).1
        have hj := (List.getElem?_eq_some_iff.1 h').1
        rw [hrow i e0 h] at hj
        have : i * z + j < news.length := by
          rw [hn]
          have : (i + 1) * z ≤ es.length * z := Nat.mul_le_mul_right _ hi
          rw [Nat.add_mul, Nat.one_mul] at this; omega
        exact ⟨trivial, _, List.getElem?_eq_getElem this, .dead _⟩

theorem appendP_ok (ok : CxOk C) (h : Is β n s a w) {t u ty : TypeId} {x y : Operand} {dst : Option Nat} {K : St → Prop} (he : appendP C s t u x y dst K) :
    ∃ z w', (Builtin.append_ #[t, u] ty #[a.eval x, a.eval y]).run C.P w = .ok z w' ∧ Now β n (a.put dst z) w' K := by
  unfold appendP at he
  split at he
  case h_2 => exact he.elim
  rename_i _ sz e zz by_ ht
  split at he
  case h_2 => exact he.elim
  rename_i _ ei hei
  obtain ⟨info, d, z, h1, h2, h3, h4⟩ := ty_info (ok.ty t _ ht)
  simp only [TyI.mk.injEq] at h4
  obtain rfl := knOf_slice h4.2.1.symm
  obtain ⟨einfo, ed, ez, e1, e2, e3, rfl⟩ := ty_info (ok.ty e _ hei)
  dsimp only at he
  split at he
  case h_2 => exact he.elim
  rename_i hcond
  simp only [Bool.and_eq_true] at hcond
  obtain ⟨q1, q2, q3⟩ := hcond
  have q1 : ez.cells.toList.length = einfo.size := Nat.eq_of_beq_eq_true q1
  have q3 : 0 < einfo.bytes := blt_iff.1 q3
  obtain ⟨s1, r, g, pm, hR, hn, he, hhdr⟩ := appRoot_ok h he
  split at he
  case h_2 => exact he.elim
  rename_i _ o ho
  split at he
  case h_2 => exact he.elim
  rename_i hc
  simp only [Bool.and_eq_true] at hc
  obtain ⟨c1, c2, c3⟩ := hc
  have c1 : o.sz = einfo.size := Nat.eq_of_beq_eq_true c1
  have c3 : s1.ng ≤ r := Nat.le_of_ble_eq_true c3
  have hat0 : s1.at r [] = some (o.es, o.deep, o.sz) := by unfold St.at; rw [ho]; rfl
  have bound : ∀ k, decide ((o.es.length + k) * einfo.bytes ≤ 140737488355328) = true → (o.es.length + k) * einfo.bytes ≤ 140737488355328 ∧ o.es.length + k ≤ 9223372036854775807 := fun k hb => by
    have hb := of_decide_eq_true hb
    refine ⟨hb, ?_⟩
    have : (o.es.length + k) * 1 ≤ (o.es.length + k) * einfo.bytes := Nat.mul_le_mul_left _ q3
    omega
  have fin : ∀ (s2 : St) (g2 : Gh) (pm2 : Nat → Nat → Option (Nat × Path)) (w2 : World) (c : Value) (k : Nat), R β s2 a w2 g2 pm2 → s2.ng = n → s2.len r [] = some k → RefHdr g2 r [] 0 k c → forceSt s2 (fun s' => putP s' dst (.hdr r []) K) → Now β n (a.put dst c) w2 K := fun s2 g2 pm2 w2 c k a1 a2 a3 a4 a5 => by
    rw [forceSt_eq] at a5
    exact putP_ok a1 a2 (.hdr r [] k c a3 a4) a5
  rcases srcP_ok ok hR (hR.opd y) he with ⟨rows, news, hk, hs, hrows⟩ | ⟨q, oq, e', hk, hyv, hoq, hoz, hod, hob, hqg, hqr, hone, hu⟩
  · obtain ⟨hb, hk⟩ := chkP_some hk
    obtain ⟨b1, b2⟩ := bound _ hb
    rw [← c1] at hs hrows
    obtain ⟨c', w', g', pm', r1, r2, r3, r4, _⟩ := hR.append (ty := ty) ho c3 h2 e1 e3 (by rw [← q1]; simp) c1.symm (hhdr o ho) hs hrows b1 b2
    have hsm := St.apS_eq s1 r o rows
    refine ⟨c', w', r1, fin _ g' pm' w' c' _ (r2.same hsm) (hsm.ng.trans hn) ?_ r3 hk⟩
    rw [hsm.len]
    unfold St.len St.at
    rw [show (s1.app r o rows).obj r = some { o with es := o.es ++ rows } from look_cons_eq _ _ _ _]
    simp [sub]
  · obtain ⟨hb, hk⟩ := chkP_some hk
    obtain ⟨b1, b2⟩ := bound _ hb
    have hatq : s1.at q [] = some (oq.es, oq.deep, oq.sz) := by unfold St.at; rw [hoq]; rfl
    have hbq := hR.blk q [] _ _ _ hatq
    have hrowq : ∀ (i : Nat) (e : List V), oq.es[i]? = some e → e.length = o.sz := fun i e he => by rw [hbq.row i e he, hbq.siz, hoz, c1]
    have hy := hR.opd y
    rw [hyv] at hy
    generalize hye : a.eval y = yv at *
    have hyr : RefHdr g q [] 0 oq.es.length yv := by
      cases hy with
      | hdr _ _ k c hk hc =>
        have : k = oq.es.length := by unfold St.len at hk; rw [hatq] at hk; exact (Option.some.inj hk).symm
        rw [← this]; exact hc
    -- the cells of what is appended
    have hcellq : ∀ k, k < oq.es.length * o.sz → ∃ c, w.cell? ⟨g.blk q [], g.off q [] + k, none⟩ = some c ∧ c.oneCell' = true := fun k hk => by
      have hpos : 0 < o.sz := Nat.pos_of_ne_zero (fun e => by rw [e] at hk; omega)
      have hi : k / o.sz < oq.es.length := Nat.div_lt_of_lt_mul (by rw [Nat.mul_comm]; exact hk)
      have hj : k % o.sz < o.sz := Nat.mod_lt _ hpos
      have hr := List.getElem?_eq_getElem hi
      have hl := hrowq _ _ hr
      have hv := List.getElem?_eq_getElem (show k % o.sz < (oq.es[k / o.sz]).length by omega)
      obtain ⟨c, c1', c2'⟩ := hbq.cell (k / o.sz) (k % o.sz) _ _ hr hv
      rw [hbq.siz, hoz, ← c1, Nat.add_assoc, Nat.div_add_mod'] at c1'
      exact ⟨c, c1', c2'.one (hod ▸ hone _ (List.mem_of_getElem? hr) _ (List.mem_of_getElem? hv))⟩
    have hsrc : ∃ news, AppSrc C.P w u o.sz yv oq.es.length news ∧ ∀ k, k < oq.es.length * o.sz → news[k]? = w.cell? ⟨g.blk q [], g.off q [] + k, none⟩ := by
      rcases Nat.eq_zero_or_pos oq.es.length with h0 | hp
      · rw [h0] at hyr ⊢
        obtain ⟨A, cap, rfl⟩ := hyr.len
        exact ⟨[], AppSrc.empty hu A cap, fun k hk => by omega⟩
      · obtain ⟨_, cap', hy2⟩ := hyr.pos hp
        rw [Nat.zero_mul, Nat.add_zero] at hy2
        subst hy2
        have hget : ∀ k, k < oq.es.length * o.sz → ((List.range (oq.es.length * o.sz)).map fun k => (w.cell? ⟨g.blk q [], g.off q [] + k, none⟩).getD undef)[k]? = w.cell? ⟨g.blk q [], g.off q [] + k, none⟩ := fun k hk' => by
          obtain ⟨c, c1, _⟩ := hcellq k hk'
          rw [List.getElem?_map, List.getElem?_range hk', c1]; simp [c1]
        refine ⟨_, AppSrc.slice hu _ _ _ _ _ (by simp) (fun j v hj => ?_) (fun v hv => ?_), hget⟩
        · have hlt : j < oq.es.length * o.sz := by have := (List.getElem?_eq_some_iff.1 hj).1; simpa using this
          rw [← hget j hlt]; exact hj
        · obtain ⟨k, hk1, rfl⟩ := List.mem_map.1 hv
          have hk1 : k < oq.es.length * o.sz := by simpa using hk1
          obtain ⟨c, c1, c2⟩ := hcellq k hk1
          rw [c1]; exact c2
    obtain ⟨news, hs, hnews⟩ := hsrc
    have hdl : (oq.es.map fun e => e.map fun _ => V.dead).length = oq.es.length := by simp
    have hrows := deadRows (w := w) (ok := okc β pm) (d := o.deep) hrowq hs.num
    obtain ⟨c', w', g', pm', r1, r2, r3, r4, r5, r6, r7⟩ := hR.append (ty := ty) ho c3 h2 e1 e3 (by rw [← q1]; simp) c1.symm (hhdr o ho) (rows := oq.es.map fun e => e.map fun _ => V.dead) (by rw [hdl]; exact hs) hrows (by rw [hdl]; exact b1) (by rw [hdl]; exact b2)
    have hor : (s1.app r o (oq.es.map fun e => e.map fun _ => V.dead)).obj r = some { o with es := o.es ++ oq.es.map fun e => e.map fun _ => V.dead } := look_cons_eq _ _ _ _
    have hoq2 : (s1.app r o (oq.es.map fun e => e.map fun _ => V.dead)).obj q = some oq := by
      show look none ((r, _) :: s1.ob) q = _
      rw [look_cons, if_neg (fun e => hqr e.symm)]; exact hoq
    have hS := r5 q [] (fun e => hqr e.1)
    obtain ⟨hR3, _⟩ := r2.absorb hor (es0 := o.es) (rows := oq.es.map fun e => e.map fun _ => V.dead) rfl (fun i j e v he hv => by
        rw [List.getElem?_map] at he
        cases h : oq.es[i]? with
        | none => rw [h] at he; cases he
        | some e0 =>
          rw [h] at he
          obtain rfl := Option.some.inj he
          rw [List.getElem?_map] at hv
          cases h' : e0[j]? with
          | none => rw [h'] at hv; cases hv
          | some v0 => rw [h'] at hv; exact (Option.some.inj hv).symm) hoq2 hqr hqg c3 hod (by rw [hoz]; exact c1.symm) hdl.symm (fun i j e he hj => by
        show w'.cell? ⟨g'.blk r [], g'.off r [] + (o.es.length + i) * o.sz + j, none⟩ = w'.cell? ⟨g'.blk q [], g'.off q [] + i * o.sz + j, none⟩
        have hj : j < o.sz := hj
        have hi := (List.getElem?_eq_some_iff.1 he).1
        have hk : i * o.sz + j < oq.es.length * o.sz := by
          have : (i + 1) * o.sz ≤ oq.es.length * o.sz := Nat.mul_le_mul_right _ hi
          rw [Nat.add_mul, Nat.one_mul] at this; omega
        have h7 := r7 (i * o.sz + j) (by rw [hs.num]; exact hk)
        rw [Nat.add_mul, show g'.off r [] + (o.es.length * o.sz + i * o.sz) + j = g'.off r [] + o.es.length * o.sz + (i * o.sz + j) by omega, h7, hnews _ hk]
        rw [hS.1, hS.2.1]
        have hnl : g.nl q [] = false := by
          cases hnl : g.nl q [] with
          | false => rfl
          | true => have := hbq.nil hnl; rw [this] at hi; simp at hi
        have hm := hbq.mine hnl (i * o.sz + j) (by
          rw [hbq.siz, hoz, ← c1]
          exact Nat.lt_of_lt_of_le hk (Nat.mul_le_mul_right _ hbq.len))
        rw [Nat.add_assoc, r6 _ _ (by rw [hm.1]; simp) (by rw [hm.1]; intro e; injection e with e; injection e with e _; exact hqr e)])
    have hsm := Same.absorb (St.apS_eq s1 r o oq.es) r q o (o.es ++ oq.es)
    have hsame : Same ((s1.app r o (oq.es.map fun e => e.map fun _ => V.dead)).absorb r q { o with es := o.es ++ oq.es.map fun e => e.map fun _ => V.dead } (o.es ++ oq.es)) ((s1.app r o oq.es).absorb r q o (o.es ++ oq.es)) := by
      refine ⟨fun _ => rfl, fun k => ?_, rfl, rfl, rfl⟩
      show look none ((r, _) :: (q, none) :: (r, _) :: s1.ob) k = look none ((r, _) :: (q, none) :: (r, _) :: s1.ob) k
      simp only [look_cons]
      by_cases e : r = k
      · simp only [if_pos e]
      · simp only [if_neg e]
    refine ⟨c', w', r1, fin _ _ _ w' c' (o.es.length + oq.es.length) ((hR3.same hsame).same hsm) (hsm.ng.trans hn) ?_ ?_ hk⟩
    · rw [hsm.len]
      unfold St.len St.at
      rw [show ((s1.app r o oq.es).absorb r q o (o.es ++ oq.es)).obj r = some { o with es := o.es ++ oq.es } from look_cons_eq _ _ _ _]
      simp [sub]
    · rw [hdl] at r3
      exact r3.same (absGh_else g' q r o.es.length (fun _ i j p e => by cases e))
end
end Ev
