/- The parser of schemas in plain Lean: tokens, the parser's state, and what each of its parts reads. -/
import Derived.Test.YtfhpkcdkinnnmaaDoorF1
import Derived.Test.YtfhpkcdkinnnmaaDoorD
open Go Ev
open Go.Proofs
set_option maxRecDepth 100000
set_option maxHeartbeats 4000000
set_option linter.unusedVariables false
namespace Ev
structure Tok where
  kind : Int
  text : ByteArray
  num : Int
  pos : Int
def Tok.cs (t : Tok) : List V := [.sc (.int .i64 t.kind), .sc (.string t.text), .sc (.int .i64 t.num), .sc (.int .i64 t.pos)]
def Tok.css (l : List Tok) : List (List V) := l.map Tok.cs
theorem Tok.css_len (l : List Tok) : (Tok.css l).length = l.length := List.length_map ..
theorem Tok.css_get {l : List Tok} {i : Nat} (h : i < l.length) : (Tok.css l)[i]? = some l[i].cs := get_map h
structure Ps where
  at' : Nat
  code : Int
  pos : Int
def Ps.adv (σ : Ps) : Ps := ⟨σ.at' + 1, σ.code, σ.pos⟩
def now (T : List Tok) (σ : Ps) : Tok := T.getD σ.at' ⟨4, .empty, 0, 0⟩
theorem now_get {T : List Tok} {σ : Ps} (h : σ.at' < T.length) : (Tok.css T)[σ.at']? = some (now T σ).cs := by
  rw [Tok.css_get h, now, List.getD_eq_getElem?_getD, List.getElem?_eq_getElem h]; rfl
def sameT (a b : ByteArray) : Bool := a.toList == b.toList
theorem sameT_eq (a b : ByteArray) : sameT a b = decide (a = b) := bytes_eq a b
def pick {α : Type} (b : Bool) (x y : α) : α := match b with
  | true => x
  | false => y
def fails (T : List Tok) (c : Int) (σ : Ps) : Ps := pick (σ.code == 0) ⟨σ.at', c, (now T σ).pos⟩ σ
def isT (T : List Tok) (s : ByteArray) (σ : Ps) : Bool := σ.code == 0 && (((now T σ).kind == 3 || (now T σ).kind == 1) && sameT (now T σ).text s)
def hasS (T : List Tok) (s : ByteArray) (σ : Ps) : Ps := pick (isT T s σ) σ.adv σ
def want (T : List Tok) (s : ByteArray) (σ : Ps) : Ps := pick (isT T s σ) σ.adv (fails T 15 σ)
def kindT (T : List Tok) (k : Int) (σ : Ps) : Bool := σ.code == 0 && (now T σ).kind == k
def takeS (T : List Tok) (k : Int) (σ : Ps) : Ps := pick (kindT T k σ) σ.adv (fails T 15 σ)
def nameT (T : List Tok) (σ : Ps) : ByteArray := pick (kindT T 1 σ) (now T σ).text .empty
def intT (T : List Tok) (σ : Ps) : Int := pick (kindT T 2 σ) (now T σ).num 0
/-- How far it is from the end. -/
def muP (T : List Tok) (σ : Ps) : Nat := pick (σ.code == 0) (T.length - σ.at' + 1) 0
/-- A loop, told by what is left of a measure. -/
def iter {α : Type} (c : α → Bool) (f : α → α) : Nat → α → α
  | 0, x => x
  | n + 1, x => pick (c x) (iter c f n (f x)) x
theorem iter_more {α : Type} {c : α → Bool} {f : α → α} {mu : α → Nat} (h : ∀ x, c x = true → mu (f x) < mu x) : ∀ (n m : Nat) (x : α), mu x ≤ n → mu x ≤ m → iter c f n x = iter c f m x
  | 0, 0, x, _, _ => rfl
  | 0, m + 1, x, h0, _ => by
    rw [iter, iter]
    cases hc : c x with
    | false => rfl
    | true => have := h x hc; omega
  | n + 1, 0, x, _, h0 => by
    rw [iter, iter]
    cases hc : c x with
    | false => rfl
    | true => have := h x hc; omega
  | n + 1, m + 1, x, hn, hm => by
    rw [iter, iter]
    cases hc : c x with
    | false => rfl
    | true => have := h x hc; exact iter_more h n m (f x) (by omega) (by omega)
theorem iter_yes {α : Type} {c : α → Bool} {f : α → α} {mu : α → Nat} (h : ∀ x, c x = true → mu (f x) < mu x) {x : α} (hc : c x = true) : iter c f (mu x) x = iter c f (mu (f x)) (f x) := by
  have := h x hc
  obtain ⟨n, hn⟩ : ∃ n, mu x = n + 1 := ⟨mu x - 1, by omega⟩
  rw [hn, iter, hc]
  exact iter_more h _ _ _ (by omega) (Nat.le_refl _)
theorem iter_no {α : Type} {c : α → Bool} {f : α → α} {n : Nat} {x : α} (hc : c x = false) : iter c f n x = x := by
  cases n with
  | zero => rfl
  | succ n => rw [iter, hc]; rfl
/-- What the lexer's tokens are. -/
structure Toks (T : List Tok) : Prop where
  some : 0 < T.length
  len : T.length ≤ 1501
  last : ∀ (i : Nat) (h : i < T.length), T[i].kind ≠ 4 → i + 1 < T.length
  word : ∀ t ∈ T, t.kind = 1 → t.text ≠ .empty ∧ ∀ s : ByteArray, (s = ⟨#[123]⟩ ∨ s = ⟨#[125]⟩ ∨ s = ⟨#[61]⟩ ∨ s = ⟨#[59]⟩ ∨ s = ⟨#[44]⟩ ∨ s = ⟨#[46]⟩ ∨ s = ⟨#[45]⟩) → t.text ≠ s
  sign : ∀ t ∈ T, t.kind = 3 → t.text.size = 1
  num : ∀ t ∈ T, 0 ≤ t.num ∧ t.num ≤ 2147483647
  size : ∀ t ∈ T, t.text.size ≤ 20
/-- The place is that of a token. -/
def Ps.In (T : List Tok) (σ : Ps) : Prop := σ.at' < T.length
theorem now_mem {T : List Tok} {σ : Ps} (h : σ.In T) : now T σ ∈ T := by
  unfold now
  rw [List.getD_eq_getElem?_getD, List.getElem?_eq_getElem h]
  exact List.getElem_mem h
theorem In.adv {T : List Tok} (ht : Toks T) {σ : Ps} (h : σ.In T) (hk : (now T σ).kind ≠ 4) : σ.adv.In T := by
  unfold now at hk
  rw [List.getD_eq_getElem?_getD, List.getElem?_eq_getElem h] at hk
  exact ht.last _ h hk
theorem In.fails {T : List Tok} {σ : Ps} {c : Int} (h : σ.In T) : (fails T c σ).In T := by
  unfold Ev.fails pick
  cases σ.code == 0 <;> exact h
theorem In.step {T : List Tok} {σ : Ps} {b : Bool} {c : Int} (ht : Toks T) (h : σ.In T) (hb : b = true → (now T σ).kind ≠ 4) : (pick b σ.adv (Ev.fails T c σ)).In T := by
  cases b with
  | true => exact In.adv ht h (hb rfl)
  | false => exact In.fails h
theorem isT_kind {T : List Tok} {s : ByteArray} {σ : Ps} (h : isT T s σ = true) : σ.code = 0 ∧ ((now T σ).kind = 3 ∨ (now T σ).kind = 1) ∧ (now T σ).text = s := by
  unfold isT at h
  rw [sameT_eq] at h
  simpa using h
theorem kindT_kind {T : List Tok} {k : Int} {σ : Ps} (h : kindT T k σ = true) : σ.code = 0 ∧ (now T σ).kind = k := by
  unfold kindT at h
  simpa using h
theorem In.want {T : List Tok} (ht : Toks T) {σ : Ps} (h : σ.In T) (s : ByteArray) : (want T s σ).In T := In.step ht h fun hb => by
  have := (isT_kind hb).2.1; omega
theorem In.has {T : List Tok} (ht : Toks T) {σ : Ps} (h : σ.In T) (s : ByteArray) : (hasS T s σ).In T := by
  unfold hasS
  cases hb : isT T s σ with
  | true => exact In.adv ht h (by have := (isT_kind hb).2.1; omega)
  | false => exact h
theorem In.take {T : List Tok} (ht : Toks T) {σ : Ps} (h : σ.In T) {k : Int} (hk : k ≠ 4) : (takeS T k σ).In T := In.step ht h fun hb => by
  have := (kindT_kind hb).2; omega
-- the measure
theorem mu_fails {T : List Tok} {σ : Ps} {c : Int} (hc : c ≠ 0) : muP T (fails T c σ) = 0 := by
  unfold fails muP
  cases h : σ.code == 0 with
  | true =>
    have : (c == 0) = false := by simpa using hc
    simp only [pick, this]
  | false => simp only [pick, h]
theorem mu_adv {T : List Tok} {σ : Ps} : muP T σ.adv ≤ muP T σ := by
  unfold muP Ps.adv
  dsimp only
  cases σ.code == 0 with
  | true => simp only [pick]; omega
  | false => exact Nat.le_refl _
theorem mu_adv_lt {T : List Tok} {σ : Ps} (h : σ.In T) (hc : σ.code = 0) : muP T σ.adv < muP T σ := by
  have : σ.at' < T.length := h
  unfold muP Ps.adv
  dsimp only
  rw [hc]
  simp only [pick]
  show T.length - (σ.at' + 1) + 1 < T.length - σ.at' + 1
  omega
theorem mu_step {T : List Tok} {σ : Ps} {b : Bool} {c : Int} (hc : c ≠ 0) : muP T (pick b σ.adv (fails T c σ)) ≤ muP T σ := by
  cases b with
  | true => exact mu_adv
  | false => exact Nat.le_trans (Nat.le_of_eq (mu_fails hc)) (Nat.zero_le _)
theorem mu_want {T : List Tok} {σ : Ps} (s : ByteArray) : muP T (want T s σ) ≤ muP T σ := mu_step (by decide)
theorem mu_take {T : List Tok} {σ : Ps} (k : Int) : muP T (takeS T k σ) ≤ muP T σ := mu_step (by decide)
theorem mu_has {T : List Tok} {σ : Ps} (s : ByteArray) : muP T (hasS T s σ) ≤ muP T σ := by
  unfold hasS
  cases isT T s σ with
  | true => exact mu_adv
  | false => exact Nat.le_refl _
theorem mu_take_lt {T : List Tok} {σ : Ps} (k : Int) (h : σ.In T) (hc : σ.code = 0) : muP T (takeS T k σ) < muP T σ := by
  unfold takeS
  cases hb : kindT T k σ with
  | true => exact mu_adv_lt h hc
  | false =>
    show muP T (fails T 15 σ) < _
    rw [mu_fails (by decide)]
    unfold muP; rw [hc]; exact Nat.succ_pos _
theorem mu_want_lt {T : List Tok} {σ : Ps} (s : ByteArray) (h : σ.In T) (hc : σ.code = 0) : muP T (want T s σ) < muP T σ := by
  unfold want
  cases hb : isT T s σ with
  | true => exact mu_adv_lt h hc
  | false =>
    show muP T (fails T 15 σ) < _
    rw [mu_fails (by decide)]
    unfold muP; rw [hc]; exact Nat.succ_pos _
-- the parts
def dotB : ByteArray := ⟨#[46]⟩
def typC (T : List Tok) (x : ByteArray × Ps) : Bool := isT T dotB x.2
def typF (T : List Tok) (x : ByteArray × Ps) : ByteArray × Ps := (x.1 ++ dotB ++ nameT T x.2.adv, takeS T 1 x.2.adv)
def typP (T : List Tok) (σ : Ps) : ByteArray × Ps := iter (typC T) (typF T) (muP T (takeS T 1 σ)) (nameT T σ, takeS T 1 σ)
def lbr : ByteArray := ⟨#[123]⟩
def rbr : ByteArray := ⟨#[125]⟩
def eqs : ByteArray := ⟨#[61]⟩
def semi : ByteArray := ⟨#[59]⟩
def comma : ByteArray := ⟨#[44]⟩
def minus : ByteArray := ⟨#[45]⟩
/-- A field from its type on. -/
def tailP (T : List Tok) (rep : Bool) (one : ByteArray) (pos : Int) (σ : Ps) : Field × Ps :=
  (⟨nameT T (typP T σ).2, (typP T σ).1, intT T (want T eqs (takeS T 1 (typP T σ).2)), rep, one, pos⟩, want T semi (takeS T 2 (want T eqs (takeS T 1 (typP T σ).2))))
def numP (neg : Bool) (n : Int) : Int := pick neg (IntKind.i64.wrap (0 - n)) n
def valP (T : List Tok) (σ : Ps) : EnumVal × Ps :=
  (⟨nameT T σ, numP (isT T minus (want T eqs (takeS T 1 σ))) (intT T (hasS T minus (want T eqs (takeS T 1 σ)))), (now T σ).pos⟩,
    want T semi (takeS T 2 (hasS T minus (want T eqs (takeS T 1 σ)))))
/-- Is there more before what closes it? -/
def moreC (T : List Tok) (σ : Ps) : Bool := σ.code == 0 && !isT T rbr σ
def enumF (T : List Tok) (x : List EnumVal × Ps) : List EnumVal × Ps := (x.1 ++ [(valP T x.2).1], (valP T x.2).2)
def enumP (T : List Tok) (σ : Ps) : Enum × Ps :=
  let σ2 := want T lbr (takeS T 1 σ.adv)
  let x := iter (fun x => moreC T x.2) (enumF T) (muP T σ2) ([], σ2)
  (⟨nameT T σ.adv, x.1, (now T σ).pos⟩, hasS T rbr x.2)
def oneF (T : List Tok) (name : ByteArray) (x : List Field × Ps) : List Field × Ps := (x.1 ++ [(tailP T false name (now T x.2).pos x.2).1], (tailP T false name (now T x.2).pos x.2).2)
def oneP (T : List Tok) (fs : List Field) (σ : Ps) : List Field × Ps :=
  let σ2 := want T lbr (takeS T 1 σ.adv)
  let x := iter (fun x => moreC T x.2) (oneF T (nameT T σ.adv)) (muP T σ2) (fs, σ2)
  (x.1, hasS T rbr x.2)
def resF (T : List Tok) (x : List Int × Ps) : List Int × Ps := (x.1 ++ [intT T x.2.adv], takeS T 2 x.2.adv)
def resP' (T : List Tok) (l : List Int) (σ : Ps) : List Int × Ps :=
  let x := iter (fun x => isT T comma x.2) (resF T) (muP T (takeS T 2 σ.adv)) (l ++ [intT T σ.adv], takeS T 2 σ.adv)
  (x.1, want T semi x.2)
def messageB : ByteArray := ⟨#[109, 101, 115, 115, 97, 103, 101]⟩
def enumB : ByteArray := ⟨#[101, 110, 117, 109]⟩
def oneofB : ByteArray := ⟨#[111, 110, 101, 111, 102]⟩
def reservedB : ByteArray := ⟨#[114, 101, 115, 101, 114, 118, 101, 100]⟩
def repeatedB : ByteArray := ⟨#[114, 101, 112, 101, 97, 116, 101, 100]⟩
def fldP (T : List Tok) (σ : Ps) : Field × Ps := tailP T (isT T repeatedB σ) .empty (now T σ).pos (hasS T repeatedB σ)
def msgF (T : List Tok) (sub : Ps → Message × Ps) (x : Message × Ps) : Message × Ps :=
  let m := x.1
  let σ := x.2
  pick (isT T messageB σ) (({m with messages := m.messages ++ [(sub σ).1]} : Message), (sub σ).2)
    (pick (isT T enumB σ) (({m with enums := m.enums ++ [(enumP T σ).1]} : Message), (enumP T σ).2)
      (pick (isT T oneofB σ) (({m with oneofs := m.oneofs ++ [nameT T σ.adv], fields := (oneP T m.fields σ).1} : Message), (oneP T m.fields σ).2)
        (pick (isT T reservedB σ) (({m with reserved := (resP' T m.reserved σ).1} : Message), (resP' T m.reserved σ).2)
          (({m with fields := m.fields ++ [(fldP T σ).1]} : Message), (fldP T σ).2))))
/-- A message over which k may stand yet. -/
def msgP (T : List Tok) : Nat → Ps → Message × Ps
  | 0, σ => (⟨.empty, [], [], [], [], [], (now T σ).pos⟩, fails T 16 σ)
  | k + 1, σ =>
    let σ2 := want T lbr (takeS T 1 (want T messageB σ))
    let x := iter (fun x => moreC T x.2) (msgF T (msgP T k)) (muP T σ2) (⟨nameT T (want T messageB σ), [], [], [], [], [], (now T σ).pos⟩, σ2)
    (x.1, hasS T rbr x.2)
def fileC (T : List Tok) (σ : Ps) : Bool := σ.code == 0 && !((now T σ).kind == 4)
def fileF (T : List Tok) (x : File × Ps) : File × Ps :=
  pick (isT T enumB x.2) (({x.1 with enums := x.1.enums ++ [(enumP T x.2).1]} : File), (enumP T x.2).2)
    (({x.1 with messages := x.1.messages ++ [(msgP T 8 x.2).1]} : File), (msgP T 8 x.2).2)
/-- The whole file, or a fault. -/
def fileP (T : List Tok) : File × Int × Int :=
  let x := iter (fun x => fileC T x.2) (fileF T) (muP T ⟨0, 0, 0⟩) (⟨[], []⟩, ⟨0, 0, 0⟩)
  pick (x.2.code == 0) (x.1, 0, 0) (⟨[], []⟩, x.2.code, x.2.pos)
end Ev
open Go Ev
open Go.Proofs
set_option maxRecDepth 100000
set_option maxHeartbeats 4000000
set_option linter.unusedVariables false
namespace Ev
theorem bl {x y : Bool} (h : x = y) : [V.sc (.bool x)] = [V.sc (.bool y)] := by rw [h]
theorem il {x y : Int} (h : x = y) : [V.sc (.int .i64 x)] = [V.sc (.int .i64 y)] := by rw [h]
def inB (n lo hi : Int) : Bool := decide (n ≥ lo) && decide (n ≤ hi)
theorem specIn (n lo hi : Int) : Fn Tryd.prog [] 80 [.sc (.int .i64 n), .sc (.int .i64 lo), .sc (.int .i64 hi)] [] (ret [.sc (.bool (inB n lo hi))] []) := by
  refine fn_of Tryd.func80 (by kernel_rfl) ?_
  conv => whnf
  refine ifP_of (fun h => ?_) (fun h => ?_)
  · conv => whnf
    exact ⟨bl (show decide (n ≤ hi) = _ by unfold inB; rw [h]; rfl), rfl⟩
  · conv => whnf
    exact ⟨bl (show false = _ by unfold inB; rw [h]; rfl), rfl⟩
def psRow (T : List Tok) (σ : Ps) : List V := [.sl 4 (Tok.css T), .sc (.int .i64 σ.at'), .sc (.int .i64 σ.code), .sc (.int .i64 σ.pos)]
def psOb (T : List Tok) (σ : Ps) : Ob := ⟨[[.own true 4 (Tok.css T), .sc (.int .i64 σ.at'), .sc (.int .i64 σ.code), .sc (.int .i64 σ.pos)]], true, 4, true⟩
theorem wadd {i n : Nat} (h : i < n) (hn : n ≤ 1501) : IntKind.i64.wrap ((i : Int) + 1) = ((i + 1 : Nat) : Int) := by rw [wrap64 (by omega) (by omega)]; omega
end Ev
open Go Ev
open Go.Proofs
set_option maxRecDepth 100000
set_option maxHeartbeats 4000000
set_option linter.unusedVariables false
namespace Ev
end Ev
open Go Ev
open Go.Proofs
set_option maxRecDepth 100000
set_option maxHeartbeats 4000000
set_option linter.unusedVariables false
namespace Ev
theorem iter_inv {α : Type} {c : α → Bool} {f : α → α} {P : α → Prop} (h : ∀ x, c x = true → P x → P (f x)) : ∀ (n : Nat) (x : α), P x → P (iter c f n x)
  | 0, x, hx => hx
  | n + 1, x, hx => by
    rw [iter]
    cases hc : c x with
    | true => exact iter_inv h n _ (h x hc hx)
    | false => exact hx
theorem iter_le {α : Type} {c : α → Bool} {f : α → α} {mu : α → Nat} (h : ∀ x, c x = true → mu (f x) < mu x) (n : Nat) (x : α) : mu (iter c f n x) ≤ mu x := iter_inv (P := fun y => mu y ≤ mu x) (fun y hc hy => Nat.le_of_lt (Nat.lt_of_lt_of_le (h y hc) hy)) n x (Nat.le_refl _)
theorem now_out {T : List Tok} {σ : Ps} (h : ¬ σ.In T) : (now T σ).kind = 4 := by
  unfold now
  rw [List.getD_eq_getElem?_getD, List.getElem?_eq_none (by unfold Ps.In at h; omega)]; rfl
theorem isT_in {T : List Tok} {s : ByteArray} {σ : Ps} (h : isT T s σ = true) : σ.In T := by
  by_cases hi : σ.In T
  · exact hi
  · have := (isT_kind h).2.1
    have := now_out hi
    omega
theorem kindT_in {T : List Tok} {k : Int} {σ : Ps} (hk : k ≠ 4) (h : kindT T k σ = true) : σ.In T := by
  by_cases hi : σ.In T
  · exact hi
  · have := (kindT_kind h).2
    have := now_out hi
    omega
theorem mu_pos {T : List Tok} {σ : Ps} (hc : σ.code = 0) : 0 < muP T σ := by
  unfold muP; rw [hc]; exact Nat.succ_pos _
theorem take_lt {T : List Tok} {σ : Ps} {k : Int} (hk : k ≠ 4) (hc : σ.code = 0) : muP T (takeS T k σ) < muP T σ := by
  unfold takeS
  cases hb : kindT T k σ with
  | true => exact mu_adv_lt (kindT_in hk hb) hc
  | false => show muP T (fails T 15 σ) < _; rw [mu_fails (by decide)]; exact mu_pos hc
theorem want_lt {T : List Tok} {σ : Ps} (s : ByteArray) (hc : σ.code = 0) : muP T (want T s σ) < muP T σ := by
  unfold want
  cases hb : isT T s σ with
  | true => exact mu_adv_lt (isT_in hb) hc
  | false => show muP T (fails T 15 σ) < _; rw [mu_fails (by decide)]; exact mu_pos hc
theorem adv_lt {T : List Tok} {σ : Ps} {s : ByteArray} (h : isT T s σ = true) : muP T σ.adv < muP T σ := mu_adv_lt (isT_in h) (isT_kind h).1
theorem adv_in {T : List Tok} (ht : Toks T) {σ : Ps} {s : ByteArray} (h : isT T s σ = true) : σ.adv.In T := In.adv ht (isT_in h) (by have := (isT_kind h).2.1; omega)
-- types
theorem typF_lt (T : List Tok) (x : ByteArray × Ps) (h : typC T x = true) : muP T (typF T x).2 < muP T x.2 := Nat.lt_of_le_of_lt (mu_take (T := T) 1) (adv_lt h)
theorem typ_le (T : List Tok) (σ : Ps) : muP T (typP T σ).2 ≤ muP T (takeS T 1 σ) := iter_le (mu := fun x : ByteArray × Ps => muP T x.2) (typF_lt T) _ _
theorem typ_in {T : List Tok} (ht : Toks T) {σ : Ps} (h : σ.In T) : (typP T σ).2.In T := iter_inv (P := fun x : ByteArray × Ps => x.2.In T) (fun x hc _ => In.take ht (k := 1) (adv_in ht hc) (by decide)) _ _ (In.take ht (k := 1) h (by decide))
theorem tail_le (T : List Tok) (r : Bool) (o : ByteArray) (p : Int) (σ : Ps) : muP T (tailP T r o p σ).2 ≤ muP T (takeS T 1 σ) :=
  Nat.le_trans (mu_want _) (Nat.le_trans (mu_take _) (Nat.le_trans (mu_want _) (Nat.le_trans (mu_take _) (typ_le T σ))))
theorem tail_in {T : List Tok} (ht : Toks T) {σ : Ps} (h : σ.In T) (r : Bool) (o : ByteArray) (p : Int) : (tailP T r o p σ).2.In T :=
  In.want ht (In.take ht (In.want ht (In.take ht (typ_in ht h) (by decide)) _) (by decide)) _
theorem more_code {T : List Tok} {σ : Ps} (h : moreC T σ = true) : σ.code = 0 := by
  unfold moreC at h
  simp only [Bool.and_eq_true] at h
  simpa using h.1
-- enums
theorem val_le (T : List Tok) (σ : Ps) : muP T (valP T σ).2 ≤ muP T (takeS T 1 σ) := Nat.le_trans (mu_want _) (Nat.le_trans (mu_take _) (Nat.le_trans (mu_has _) (mu_want _)))
theorem val_in {T : List Tok} (ht : Toks T) {σ : Ps} (h : σ.In T) : (valP T σ).2.In T := In.want ht (In.take ht (In.has ht (In.want ht (In.take ht h (by decide)) _) _) (by decide)) _
theorem enumF_lt (T : List Tok) (x : List EnumVal × Ps) (h : moreC T x.2 = true) : muP T (enumF T x).2 < muP T x.2 := Nat.lt_of_le_of_lt (val_le T x.2) (take_lt (by decide) (more_code h))
def enumX (T : List Tok) (σ : Ps) : List EnumVal × Ps := iter (fun x => moreC T x.2) (enumF T) (muP T (want T lbr (takeS T 1 σ.adv))) ([], want T lbr (takeS T 1 σ.adv))
theorem enum_le (T : List Tok) (σ : Ps) : muP T (enumP T σ).2 ≤ muP T σ.adv := Nat.le_trans (mu_has _) (Nat.le_trans (iter_le (mu := fun x : List EnumVal × Ps => muP T x.2) (enumF_lt T) _ _) (Nat.le_trans (mu_want _) (mu_take _)))
theorem enum_in {T : List Tok} (ht : Toks T) {σ : Ps} (h : σ.adv.In T) : (enumP T σ).2.In T := In.has ht (iter_inv (P := fun x : List EnumVal × Ps => x.2.In T) (fun x _ hx => val_in ht hx) _ _ (In.want ht (In.take ht h (by decide)) _)) _
-- oneofs
theorem oneF_lt (T : List Tok) (n : ByteArray) (x : List Field × Ps) (h : moreC T x.2 = true) : muP T (oneF T n x).2 < muP T x.2 := Nat.lt_of_le_of_lt (tail_le T false n (now T x.2).pos x.2) (take_lt (by decide) (more_code h))
theorem one_le (T : List Tok) (fs : List Field) (σ : Ps) : muP T (oneP T fs σ).2 ≤ muP T σ.adv := Nat.le_trans (mu_has _) (Nat.le_trans (iter_le (mu := fun x : List Field × Ps => muP T x.2) (oneF_lt T _) _ _) (Nat.le_trans (mu_want _) (mu_take _)))
theorem one_in {T : List Tok} (ht : Toks T) {σ : Ps} (fs : List Field) (h : σ.adv.In T) : (oneP T fs σ).2.In T := In.has ht (iter_inv (P := fun x : List Field × Ps => x.2.In T) (fun x _ hx => tail_in ht hx false (nameT T σ.adv) (now T x.2).pos) _ _ (In.want ht (In.take ht h (by decide)) _)) _
-- reserved
theorem resF_lt (T : List Tok) (x : List Int × Ps) (h : isT T comma x.2 = true) : muP T (resF T x).2 < muP T x.2 := Nat.lt_of_le_of_lt (mu_take _) (adv_lt h)
theorem res_le (T : List Tok) (l : List Int) (σ : Ps) : muP T (resP' T l σ).2 ≤ muP T σ.adv := Nat.le_trans (mu_want _) (Nat.le_trans (iter_le (mu := fun x : List Int × Ps => muP T x.2) (resF_lt T) _ _) (mu_take _))
theorem res_in {T : List Tok} (ht : Toks T) {σ : Ps} (l : List Int) (h : σ.adv.In T) : (resP' T l σ).2.In T := In.want ht (iter_inv (P := fun x : List Int × Ps => x.2.In T) (fun x hc hx => In.take ht (adv_in ht hc) (by decide)) _ _ (In.take ht h (by decide))) _
-- fields, messages
theorem fld_lt (T : List Tok) {σ : Ps} (h : σ.code = 0) : muP T (fldP T σ).2 < muP T σ := by
  refine Nat.lt_of_le_of_lt (tail_le T _ _ _ _) ?_
  unfold hasS
  cases hb : isT T repeatedB σ with
  | true => exact Nat.lt_of_le_of_lt (mu_take _) (adv_lt hb)
  | false => exact take_lt (by decide) h
theorem fld_in {T : List Tok} (ht : Toks T) {σ : Ps} (h : σ.In T) : (fldP T σ).2.In T := tail_in ht (In.has ht h _) _ _ _
theorem msgF_lt (T : List Tok) {sub : Ps → Message × Ps} (hs : ∀ σ, σ.code = 0 → muP T (sub σ).2 < muP T σ) (x : Message × Ps) (h : moreC T x.2 = true) : muP T (msgF T sub x).2 < muP T x.2 := by
  have hc := more_code h
  unfold msgF
  dsimp only
  cases h1 : isT T messageB x.2 with
  | true => exact hs _ hc
  | false =>
    cases h2 : isT T enumB x.2 with
    | true => exact Nat.lt_of_le_of_lt (enum_le T _) (adv_lt h2)
    | false =>
      cases h3 : isT T oneofB x.2 with
      | true => exact Nat.lt_of_le_of_lt (one_le T _ _) (adv_lt h3)
      | false =>
        cases h4 : isT T reservedB x.2 with
        | true => exact Nat.lt_of_le_of_lt (res_le T _ _) (adv_lt h4)
        | false => exact fld_lt T hc
theorem msg_lt (T : List Tok) : ∀ (k : Nat) (σ : Ps), σ.code = 0 → muP T (msgP T k σ).2 < muP T σ
  | 0, σ, h => by
    show muP T (fails T 16 σ) < _
    rw [mu_fails (by decide)]; exact mu_pos h
  | k + 1, σ, h => Nat.lt_of_le_of_lt (Nat.le_trans (mu_has _) (Nat.le_trans (iter_le (mu := fun x : Message × Ps => muP T x.2) (msgF_lt T (msg_lt T k)) _ _) (Nat.le_trans (mu_want _) (mu_take _)))) (want_lt messageB h)
theorem msgF_in {T : List Tok} (ht : Toks T) {sub : Ps → Message × Ps} (hs : ∀ σ, σ.In T → (sub σ).2.In T) (x : Message × Ps) (h : x.2.In T) : (msgF T sub x).2.In T := by
  unfold msgF
  dsimp only
  cases h1 : isT T messageB x.2 with
  | true => exact hs _ h
  | false =>
    cases h2 : isT T enumB x.2 with
    | true => exact enum_in ht (adv_in ht h2)
    | false =>
      cases h3 : isT T oneofB x.2 with
      | true => exact one_in ht _ (adv_in ht h3)
      | false =>
        cases h4 : isT T reservedB x.2 with
        | true => exact res_in ht _ (adv_in ht h4)
        | false => exact fld_in ht h
theorem msg_in {T : List Tok} (ht : Toks T) : ∀ (k : Nat) (σ : Ps), σ.In T → (msgP T k σ).2.In T
  | 0, σ, h => In.fails h
  | k + 1, σ, h => In.has ht (iter_inv (P := fun x : Message × Ps => x.2.In T) (fun x _ hx => msgF_in ht (msg_in ht k) x hx) _ _ (In.want ht (In.take ht (In.want ht h _) (by decide)) _)) _
theorem fileC_code {T : List Tok} {σ : Ps} (h : fileC T σ = true) : σ.code = 0 := by
  unfold fileC at h
  simp only [Bool.and_eq_true] at h
  simpa using h.1
theorem fileF_lt (T : List Tok) (x : File × Ps) (h : fileC T x.2 = true) : muP T (fileF T x).2 < muP T x.2 := by
  unfold fileF
  cases h2 : isT T enumB x.2 with
  | true => exact Nat.lt_of_le_of_lt (enum_le T _) (adv_lt h2)
  | false => exact msg_lt T 8 _ (fileC_code h)
theorem fileF_in {T : List Tok} (ht : Toks T) (x : File × Ps) (h : x.2.In T) : (fileF T x).2.In T := by
  unfold fileF
  cases h2 : isT T enumB x.2 with
  | true => exact enum_in ht (adv_in ht h2)
  | false => exact msg_in ht 8 _ h
end Ev
open Go Ev
open Go.Proofs
set_option maxRecDepth 100000
set_option maxHeartbeats 4000000
set_option linter.unusedVariables false
namespace Ev
theorem size_app (a b : ByteArray) : (a ++ b).size = a.size + b.size := ByteArray.size_append
theorem take_at {T : List Tok} (hT : Toks T) {σ : Ps} (h : σ.In T) : (nameT T σ).size + 20 * σ.at' ≤ 20 * (takeS T 1 σ).at' := by
  have hs := hT.size _ (now_mem h)
  unfold nameT takeS fails
  cases kindT T 1 σ with
  | true => show (now T σ).text.size + _ ≤ 20 * (σ.at' + 1); omega
  | false =>
    cases σ.code == 0 with
    | true => show ByteArray.empty.size + _ ≤ _; simp [pick]
    | false => show ByteArray.empty.size + _ ≤ _; simp [pick]
end Ev
open Go Ev
open Go.Proofs
set_option maxRecDepth 100000
set_option maxHeartbeats 4000000
set_option linter.unusedVariables false
namespace Ev
theorem EnumVal.css_snoc (l : List EnumVal) (a : EnumVal) : EnumVal.css l ++ [a.cells] = EnumVal.css (l ++ [a]) := by
  induction l with
  | nil => rw [EnumVal.css, List.nil_append, List.nil_append, EnumVal.css, EnumVal.cs_eq]; rfl
  | cons b l ih => rw [EnumVal.css, List.cons_append, List.cons_append, EnumVal.css, ih]
def oneC : V → Bool
  | .sc x => x.oneCell'
  | _ => false
theorem one_row {d own : Bool} {row : List V} (h : row.all oneC = true) : OneEs d own [row] := fun e he v hv => by
  obtain rfl := List.mem_singleton.1 he
  have := List.all_eq_true.1 h v hv
  cases v with
  | sc x => exact this
  | _ => cases this
theorem mu_le {T : List Tok} (hT : Toks T) (σ : Ps) : muP T σ ≤ 1502 := by
  have := hT.len
  unfold muP
  cases σ.code == 0 <;> simp only [pick] <;> omega
end Ev
open Go Ev
open Go.Proofs
set_option maxRecDepth 100000
set_option maxHeartbeats 4000000
set_option linter.unusedVariables false
namespace Ev
theorem Field.css_snoc (l : List Field) (a : Field) : Field.css l ++ [a.cells] = Field.css (l ++ [a]) := by
  induction l with
  | nil => rw [Field.css, List.nil_append, List.nil_append, Field.css, Field.cs_eq]; rfl
  | cons b l ih => rw [Field.css, List.cons_append, List.cons_append, Field.css, ih]
theorem strC_snoc (l : List ByteArray) (b : ByteArray) : strC l ++ [[.sc (.string b)]] = strC (l ++ [b]) := by unfold strC; rw [List.map_append]; rfl
theorem intC_snoc (l : List Int) (b : Int) : intC l ++ [[.sc (.int .i64 b)]] = intC (l ++ [b]) := by unfold intC; rw [List.map_append]; rfl
theorem oneF_len {T : List Tok} {n : ByteArray} {N : Nat} (x : List Field × Ps) (hc : moreC T x.2 = true) (h : x.1.length + muP T x.2 ≤ N) : (oneF T n x).1.length + muP T (oneF T n x).2 ≤ N := by
  have h1 := oneF_lt T n x hc
  have : (oneF T n x).1.length = x.1.length + 1 := by unfold oneF; rw [List.length_append]; rfl
  omega
end Ev
open Go Ev
open Go.Proofs
set_option maxRecDepth 100000
set_option maxHeartbeats 4000000
set_option linter.unusedVariables false
namespace Ev
theorem Message.css_snoc (l : List Message) (a : Message) : Message.css l ++ [a.cells] = Message.css (l ++ [a]) := by
  induction l with
  | nil => rw [Message.css, List.nil_append, List.nil_append, Message.css, Message.cs_eq, Message.css]
  | cons b l ih => rw [Message.css, List.cons_append, List.cons_append, Message.css, ih]
theorem Enum.css_snoc (l : List Enum) (a : Enum) : Enum.css l ++ [a.cells] = Enum.css (l ++ [a]) := by
  induction l with
  | nil => rw [Enum.css, List.nil_append, List.nil_append, Enum.css, Enum.cs_eq, Enum.css]
  | cons b l ih => rw [Enum.css, List.cons_append, List.cons_append, Enum.css, ih]
/-- The lists of a message that is being read are no longer than what has been read. -/
structure MsB (T : List Tok) (x : Message × Ps) : Prop where
  f : x.1.fields.length + muP T x.2 ≤ 1502
  o : x.1.oneofs.length + muP T x.2 ≤ 1502
  r : x.1.reserved.length + muP T x.2 ≤ 1502
  m : x.1.messages.length + muP T x.2 ≤ 1502
  e : x.1.enums.length + muP T x.2 ≤ 1502
theorem one_len {T : List Tok} (fs : List Field) {σ : Ps} {N : Nat} (h : fs.length + muP T σ.adv ≤ N) : (oneP T fs σ).1.length + muP T (oneP T fs σ).2 ≤ N := by
  have h0 : fs.length + muP T (want T lbr (takeS T 1 σ.adv)) ≤ N := by
    have := Nat.le_trans (mu_want (T := T) (σ := takeS T 1 σ.adv) lbr) (mu_take (T := T) (σ := σ.adv) 1)
    omega
  have h1 := iter_inv (c := fun x : List Field × Ps => moreC T x.2) (f := oneF T (nameT T σ.adv)) (P := fun x : List Field × Ps => x.1.length + muP T x.2 ≤ N) (fun x hc hx => oneF_len x hc hx) (muP T (want T lbr (takeS T 1 σ.adv))) (fs, want T lbr (takeS T 1 σ.adv)) h0
  have h2 : (oneP T fs σ).1.length + muP T (hasS T rbr (iter (fun x : List Field × Ps => moreC T x.2) (oneF T (nameT T σ.adv)) (muP T (want T lbr (takeS T 1 σ.adv))) (fs, want T lbr (takeS T 1 σ.adv))).2) ≤ N := Nat.le_trans (Nat.add_le_add_left (mu_has _) _) h1
  exact h2
theorem resF_len {T : List Tok} {N : Nat} (x : List Int × Ps) (hc : isT T comma x.2 = true) (h : x.1.length + muP T x.2 ≤ N) : (resF T x).1.length + muP T (resF T x).2 ≤ N := by
  have h1 := resF_lt T x hc
  have : (resF T x).1.length = x.1.length + 1 := by unfold resF; rw [List.length_append]; rfl
  omega
theorem res_len {T : List Tok} (l : List Int) {σ : Ps} {N : Nat} (h : l.length + 1 + muP T σ.adv ≤ N) : (resP' T l σ).1.length + muP T (resP' T l σ).2 ≤ N := by
  have h0 : (l ++ [intT T σ.adv]).length + muP T (takeS T 2 σ.adv) ≤ N := by
    have := mu_take (T := T) (σ := σ.adv) 2
    rw [List.length_append, List.length_singleton]
    omega
  have h1 := iter_inv (c := fun x : List Int × Ps => isT T comma x.2) (f := resF T) (P := fun x : List Int × Ps => x.1.length + muP T x.2 ≤ N) (fun x hc hx => resF_len x hc hx) (muP T (takeS T 2 σ.adv)) (l ++ [intT T σ.adv], takeS T 2 σ.adv) h0
  have h2 : (resP' T l σ).1.length + muP T (want T semi (iter (fun x : List Int × Ps => isT T comma x.2) (resF T) (muP T (takeS T 2 σ.adv)) (l ++ [intT T σ.adv], takeS T 2 σ.adv)).2) ≤ N := Nat.le_trans (Nat.add_le_add_left (mu_want _) _) h1
  exact h2
theorem msgF_b {T : List Tok} {sub : Ps → Message × Ps} (hs : ∀ σ, σ.code = 0 → muP T (sub σ).2 < muP T σ) (x : Message × Ps) (hc : moreC T x.2 = true) (h : MsB T x) : MsB T (msgF T sub x) := by
  have hlt := msgF_lt T hs x hc
  obtain ⟨⟨name, fields, oneofs, reserved, messages, enums, pos⟩, σ⟩ := x
  obtain ⟨b1, b2, b3, b4, b5⟩ := h
  dsimp only at b1 b2 b3 b4 b5 hlt
  unfold msgF at hlt ⊢
  dsimp only at hlt ⊢
  cases h1 : isT T messageB σ with
  | true =>
    rw [h1] at hlt
    simp only [pick] at hlt ⊢
    refine ⟨?_, ?_, ?_, ?_, ?_⟩ <;> dsimp only <;> (try rw [List.length_append, List.length_singleton]) <;> omega
  | false =>
    rw [h1] at hlt
    cases h2 : isT T enumB σ with
    | true =>
      rw [h2] at hlt
      simp only [pick] at hlt ⊢
      refine ⟨?_, ?_, ?_, ?_, ?_⟩ <;> dsimp only <;> (try rw [List.length_append, List.length_singleton]) <;> omega
    | false =>
      rw [h2] at hlt
      cases h3 : isT T oneofB σ with
      | true =>
        rw [h3] at hlt
        have hf := one_len (T := T) fields (σ := σ) (N := 1502) (by have := mu_adv (T := T) (σ := σ); omega)
        simp only [pick] at hlt ⊢
        refine ⟨?_, ?_, ?_, ?_, ?_⟩ <;> dsimp only <;> (try rw [List.length_append, List.length_singleton]) <;> omega
      | false =>
        rw [h3] at hlt
        cases h4 : isT T reservedB σ with
        | true =>
          rw [h4] at hlt
          have hf := res_len (T := T) reserved (σ := σ) (N := 1502) (by have := adv_lt h4; omega)
          simp only [pick] at hlt ⊢
          refine ⟨?_, ?_, ?_, ?_, ?_⟩ <;> dsimp only <;> (try rw [List.length_append, List.length_singleton]) <;> omega
        | false =>
          rw [h4] at hlt
          simp only [pick] at hlt ⊢
          refine ⟨?_, ?_, ?_, ?_, ?_⟩ <;> dsimp only <;> (try rw [List.length_append, List.length_singleton]) <;> omega
end Ev
