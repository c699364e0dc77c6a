/- Contracts of functions of the given program, shown on the evaluator; each states its own conditions. -/
import Derived.Test.YtfhpkcdkinnnmaaGreatDoorF1
open Go Ev
open Go.Proofs
set_option maxRecDepth 100000
set_option maxHeartbeats 4000000
set_option linter.unusedVariables false
namespace Ev
structure FieldDesc where
  name : ByteArray
  num : Int
  kind : Int
  ref : Int
  rep : Bool
  oneof : Int
def FieldDesc.cs : FieldDesc → List V
  | ⟨name, num, kind, ref, rep, oneof⟩ => [.sc (.string name), .sc (.int .i64 num), .sc (.int .i64 kind), .sc (.int .i64 ref), .sc (.bool rep), .sc (.int .i64 oneof)]
def FieldDesc.css : List FieldDesc → List (List V)
  | [] => []
  | a :: l => a.cs :: FieldDesc.css l
def FieldDesc.w : FieldDesc → Nat
  | ⟨name, num, kind, ref, rep, oneof⟩ => name.size
def FieldDesc.ss : List FieldDesc → Nat
  | [] => 0
  | a :: l => a.w + FieldDesc.ss l
def FieldDesc.ws (l : List FieldDesc) : Nat := l.length + FieldDesc.ss l
def FieldDesc.ok : FieldDesc → Prop
  | ⟨name, num, kind, ref, rep, oneof⟩ => name.size ≤ 9223372036854775807
def FieldDesc.okl : List FieldDesc → Prop
  | [] => True
  | a :: l => a.ok ∧ FieldDesc.okl l
def FieldDesc.oks (l : List FieldDesc) : Prop := l.length ≤ 9223372036854775807 ∧ FieldDesc.okl l
def FieldDesc.cells (a : FieldDesc) : List V := [.sc (.string a.name), .sc (.int .i64 a.num), .sc (.int .i64 a.kind), .sc (.int .i64 a.ref), .sc (.bool a.rep), .sc (.int .i64 a.oneof)]
def FieldDesc.acells (a : FieldDesc) : List V := [.sc (.string a.name), .sc (.int .i64 a.num), .sc (.int .i64 a.kind), .sc (.int .i64 a.ref), .sc (.bool a.rep), .sc (.int .i64 a.oneof)]
def FieldDesc.ocells (a : FieldDesc) : List V := [.sc (.string a.name), .sc (.int .i64 a.num), .sc (.int .i64 a.kind), .sc (.int .i64 a.ref), .sc (.bool a.rep), .sc (.int .i64 a.oneof)]
theorem FieldDesc.cs_eq (a : FieldDesc) : a.cs = a.cells := by cases a; rfl
theorem FieldDesc.css_len : ∀ l : List FieldDesc, (FieldDesc.css l).length = l.length
  | [] => rfl
  | a :: l => by rw [FieldDesc.css, List.length_cons, List.length_cons, FieldDesc.css_len l]
theorem FieldDesc.css_get : ∀ {l : List FieldDesc} {i : Nat} (h : i < l.length), (FieldDesc.css l)[i]? = some (FieldDesc.cells l[i])
  | a :: l, 0, h => by rw [FieldDesc.css, List.getElem?_cons_zero, FieldDesc.cs_eq]; rfl
  | a :: l, i + 1, h => by rw [FieldDesc.css, List.getElem?_cons_succ]; exact FieldDesc.css_get (by simpa using h)
theorem FieldDesc.okl_mem : ∀ {l : List FieldDesc}, FieldDesc.okl l → ∀ a ∈ l, a.ok
  | [], _ => fun b hb => nomatch hb
  | a :: l, h => fun b hb => by
    rw [FieldDesc.okl] at h
    rcases List.mem_cons.1 hb with rfl | hb
    · exact h.1
    · exact FieldDesc.okl_mem h.2 b hb
theorem FieldDesc.ss_drop {l : List FieldDesc} {i : Nat} (h : i < l.length) : FieldDesc.ss (l.drop i) = l[i].w + FieldDesc.ss (l.drop (i + 1)) := by rw [List.drop_eq_getElem_cons h, FieldDesc.ss]
theorem FieldDesc.ss_mem : ∀ {l : List FieldDesc} {a : FieldDesc}, a ∈ l → a.w ≤ FieldDesc.ss l
  | b :: l, a, h => by
    rw [FieldDesc.ss]
    rcases List.mem_cons.1 h with rfl | h
    · omega
    · have := FieldDesc.ss_mem h; omega
structure Desc where
  name : ByteArray
  fields : List FieldDesc
  oneofs : List ByteArray
def Desc.cs : Desc → List V
  | ⟨name, fields, oneofs⟩ => [.sc (.string name), .sl 6 (FieldDesc.css fields), .sl 1 (strC oneofs)]
def Desc.css : List Desc → List (List V)
  | [] => []
  | a :: l => a.cs :: Desc.css l
def Desc.w : Desc → Nat
  | ⟨name, fields, oneofs⟩ => name.size + FieldDesc.ws fields + strW oneofs
def Desc.ss : List Desc → Nat
  | [] => 0
  | a :: l => a.w + Desc.ss l
def Desc.ws (l : List Desc) : Nat := l.length + Desc.ss l
def Desc.ok : Desc → Prop
  | ⟨name, fields, oneofs⟩ => name.size ≤ 9223372036854775807 ∧ FieldDesc.oks fields ∧ strO oneofs
def Desc.okl : List Desc → Prop
  | [] => True
  | a :: l => a.ok ∧ Desc.okl l
def Desc.oks (l : List Desc) : Prop := l.length ≤ 9223372036854775807 ∧ Desc.okl l
def Desc.cells (a : Desc) : List V := [.sc (.string a.name), .sl 6 (FieldDesc.css a.fields), .sl 1 (strC a.oneofs)]
def Desc.acells (a : Desc) : List V := [.sc (.string a.name), .sh 6 (FieldDesc.css a.fields), .sh 1 (strC a.oneofs)]
def Desc.ocells (a : Desc) : List V := [.sc (.string a.name), .own true 6 (FieldDesc.css a.fields), .own true 1 (strC a.oneofs)]
theorem Desc.cs_eq (a : Desc) : a.cs = a.cells := by cases a; rfl
theorem Desc.css_len : ∀ l : List Desc, (Desc.css l).length = l.length
  | [] => rfl
  | a :: l => by rw [Desc.css, List.length_cons, List.length_cons, Desc.css_len l]
theorem Desc.css_get : ∀ {l : List Desc} {i : Nat} (h : i < l.length), (Desc.css l)[i]? = some (Desc.cells l[i])
  | a :: l, 0, h => by rw [Desc.css, List.getElem?_cons_zero, Desc.cs_eq]; rfl
  | a :: l, i + 1, h => by rw [Desc.css, List.getElem?_cons_succ]; exact Desc.css_get (by simpa using h)
theorem Desc.okl_mem : ∀ {l : List Desc}, Desc.okl l → ∀ a ∈ l, a.ok
  | [], _ => fun b hb => nomatch hb
  | a :: l, h => fun b hb => by
    rw [Desc.okl] at h
    rcases List.mem_cons.1 hb with rfl | hb
    · exact h.1
    · exact Desc.okl_mem h.2 b hb
theorem Desc.ss_drop {l : List Desc} {i : Nat} (h : i < l.length) : Desc.ss (l.drop i) = l[i].w + Desc.ss (l.drop (i + 1)) := by rw [List.drop_eq_getElem_cons h, Desc.ss]
theorem Desc.ss_mem : ∀ {l : List Desc} {a : Desc}, a ∈ l → a.w ≤ Desc.ss l
  | b :: l, a, h => by
    rw [Desc.ss]
    rcases List.mem_cons.1 h with rfl | h
    · omega
    · have := Desc.ss_mem h; omega
structure EnumDesc where
  name : ByteArray
  names : List ByteArray
  nums : List Int
def EnumDesc.cs : EnumDesc → List V
  | ⟨name, names, nums⟩ => [.sc (.string name), .sl 1 (strC names), .sl 1 (intC nums)]
def EnumDesc.css : List EnumDesc → List (List V)
  | [] => []
  | a :: l => a.cs :: EnumDesc.css l
def EnumDesc.w : EnumDesc → Nat
  | ⟨name, names, nums⟩ => name.size + strW names + nums.length
def EnumDesc.ss : List EnumDesc → Nat
  | [] => 0
  | a :: l => a.w + EnumDesc.ss l
def EnumDesc.ws (l : List EnumDesc) : Nat := l.length + EnumDesc.ss l
def EnumDesc.ok : EnumDesc → Prop
  | ⟨name, names, nums⟩ => name.size ≤ 9223372036854775807 ∧ strO names ∧ nums.length ≤ 9223372036854775807
def EnumDesc.okl : List EnumDesc → Prop
  | [] => True
  | a :: l => a.ok ∧ EnumDesc.okl l
def EnumDesc.oks (l : List EnumDesc) : Prop := l.length ≤ 9223372036854775807 ∧ EnumDesc.okl l
def EnumDesc.cells (a : EnumDesc) : List V := [.sc (.string a.name), .sl 1 (strC a.names), .sl 1 (intC a.nums)]
def EnumDesc.acells (a : EnumDesc) : List V := [.sc (.string a.name), .sh 1 (strC a.names), .sh 1 (intC a.nums)]
def EnumDesc.ocells (a : EnumDesc) : List V := [.sc (.string a.name), .own true 1 (strC a.names), .own true 1 (intC a.nums)]
theorem EnumDesc.cs_eq (a : EnumDesc) : a.cs = a.cells := by cases a; rfl
theorem EnumDesc.css_len : ∀ l : List EnumDesc, (EnumDesc.css l).length = l.length
  | [] => rfl
  | a :: l => by rw [EnumDesc.css, List.length_cons, List.length_cons, EnumDesc.css_len l]
theorem EnumDesc.css_get : ∀ {l : List EnumDesc} {i : Nat} (h : i < l.length), (EnumDesc.css l)[i]? = some (EnumDesc.cells l[i])
  | a :: l, 0, h => by rw [EnumDesc.css, List.getElem?_cons_zero, EnumDesc.cs_eq]; rfl
  | a :: l, i + 1, h => by rw [EnumDesc.css, List.getElem?_cons_succ]; exact EnumDesc.css_get (by simpa using h)
theorem EnumDesc.okl_mem : ∀ {l : List EnumDesc}, EnumDesc.okl l → ∀ a ∈ l, a.ok
  | [], _ => fun b hb => nomatch hb
  | a :: l, h => fun b hb => by
    rw [EnumDesc.okl] at h
    rcases List.mem_cons.1 hb with rfl | hb
    · exact h.1
    · exact EnumDesc.okl_mem h.2 b hb
theorem EnumDesc.ss_drop {l : List EnumDesc} {i : Nat} (h : i < l.length) : EnumDesc.ss (l.drop i) = l[i].w + EnumDesc.ss (l.drop (i + 1)) := by rw [List.drop_eq_getElem_cons h, EnumDesc.ss]
theorem EnumDesc.ss_mem : ∀ {l : List EnumDesc} {a : EnumDesc}, a ∈ l → a.w ≤ EnumDesc.ss l
  | b :: l, a, h => by
    rw [EnumDesc.ss]
    rcases List.mem_cons.1 h with rfl | h
    · omega
    · have := EnumDesc.ss_mem h; omega
structure Schema where
  descs : List Desc
  enums : List EnumDesc
def Schema.cs : Schema → List V
  | ⟨descs, enums⟩ => [.sl 3 (Desc.css descs), .sl 3 (EnumDesc.css enums)]
def Schema.css : List Schema → List (List V)
  | [] => []
  | a :: l => a.cs :: Schema.css l
def Schema.w : Schema → Nat
  | ⟨descs, enums⟩ => Desc.ws descs + EnumDesc.ws enums
def Schema.ss : List Schema → Nat
  | [] => 0
  | a :: l => a.w + Schema.ss l
def Schema.ws (l : List Schema) : Nat := l.length + Schema.ss l
def Schema.ok : Schema → Prop
  | ⟨descs, enums⟩ => Desc.oks descs ∧ EnumDesc.oks enums
def Schema.okl : List Schema → Prop
  | [] => True
  | a :: l => a.ok ∧ Schema.okl l
def Schema.oks (l : List Schema) : Prop := l.length ≤ 9223372036854775807 ∧ Schema.okl l
def Schema.cells (a : Schema) : List V := [.sl 3 (Desc.css a.descs), .sl 3 (EnumDesc.css a.enums)]
def Schema.acells (a : Schema) : List V := [.sh 3 (Desc.css a.descs), .sh 3 (EnumDesc.css a.enums)]
def Schema.ocells (a : Schema) : List V := [.own true 3 (Desc.css a.descs), .own true 3 (EnumDesc.css a.enums)]
theorem Schema.cs_eq (a : Schema) : a.cs = a.cells := by cases a; rfl
theorem Schema.css_len : ∀ l : List Schema, (Schema.css l).length = l.length
  | [] => rfl
  | a :: l => by rw [Schema.css, List.length_cons, List.length_cons, Schema.css_len l]
theorem Schema.css_get : ∀ {l : List Schema} {i : Nat} (h : i < l.length), (Schema.css l)[i]? = some (Schema.cells l[i])
  | a :: l, 0, h => by rw [Schema.css, List.getElem?_cons_zero, Schema.cs_eq]; rfl
  | a :: l, i + 1, h => by rw [Schema.css, List.getElem?_cons_succ]; exact Schema.css_get (by simpa using h)
theorem Schema.okl_mem : ∀ {l : List Schema}, Schema.okl l → ∀ a ∈ l, a.ok
  | [], _ => fun b hb => nomatch hb
  | a :: l, h => fun b hb => by
    rw [Schema.okl] at h
    rcases List.mem_cons.1 hb with rfl | hb
    · exact h.1
    · exact Schema.okl_mem h.2 b hb
theorem Schema.ss_drop {l : List Schema} {i : Nat} (h : i < l.length) : Schema.ss (l.drop i) = l[i].w + Schema.ss (l.drop (i + 1)) := by rw [List.drop_eq_getElem_cons h, Schema.ss]
theorem Schema.ss_mem : ∀ {l : List Schema} {a : Schema}, a ∈ l → a.w ≤ Schema.ss l
  | b :: l, a, h => by
    rw [Schema.ss]
    rcases List.mem_cons.1 h with rfl | h
    · omega
    · have := Schema.ss_mem h; omega
theorem eqFieldDescS_ok (xs ys : List FieldDesc) (hb : xs.length ≤ 1099511627776) (H : ∀ x ∈ xs, ∀ y ∈ ys, Fn Tryz.prog [] 146 [.agg x.acells, .agg y.acells] [] (ret [.sc (.bool (eqb x y))] [])) : Fn Tryz.prog [] 115 [.sh 6 (FieldDesc.css xs), .sh 6 (FieldDesc.css ys)] [] (ret [.sc (.bool (eqb xs ys))] []) := by
  refine fn_of Tryz.func115 (by kernel_rfl) ?_
  have hlx := FieldDesc.css_len xs
  have hly := FieldDesc.css_len ys
  conv => whnf
  rw [hlx, hly]
  refine ifP_of (fun h => ?_) (fun h => ?_)
  · have hne : ¬ xs = ys := fun e => by rw [e] at h; simp at h
    conv => whnf
    exact ⟨congrArg (fun x : Bool => [V.sc (.bool x)]) (eqb_no hne).symm, rfl⟩
  · have hlen : xs.length = ys.length := by
      simp only [bne_eq_false_iff_eq] at h; omega
    conv => whnf
    refine loop_of (A := Nat) (fun i => ⟨[(0, .sh 6 (FieldDesc.css xs)), (1, .sh 6 (FieldDesc.css ys)), (5, .sc (.int .i64 i))], [], 0, 27, 0⟩) (fun i => xs.length - i) (fun i => i ≤ xs.length ∧ eqb (xs.drop i) (ys.drop i) = eqb xs ys) 0 rfl ⟨Nat.zero_le _, by rw [List.drop_zero, List.drop_zero]⟩ ?_
    intro i ⟨hi, hout⟩ X ih
    conv => whnf
    refine ifP_of (fun h2 => ?_) (fun h2 => ?_)
    · have hi1 : i < xs.length := by rw [hlx] at h2; have := of_decide_eq_true h2; omega
      have hi2 : i < ys.length := by omega
      have hx : xs.drop i = xs[i] :: xs.drop (i+1) := List.drop_eq_getElem_cons hi1
      have hy : ys.drop i = ys[i] :: ys.drop (i+1) := List.drop_eq_getElem_cons hi2
      conv => whnf
      try (refine chkP_of (by simp; done) ?_; conv => whnf)
      refine optP_of (FieldDesc.css_get hi1) ?_
      conv => whnf
      try (refine chkP_of (by simp; done) ?_; conv => whnf)
      refine optP_of (FieldDesc.css_get hi2) ?_
      conv => whnf
      refine Fn.use (H xs[i] (List.getElem_mem hi1) ys[i] (List.getElem_mem hi2)) ?_
      conv => whnf
      refine ⟨trivial, ?_⟩
      conv => whnf
      refine ifP_of (fun h3 => ?_) (fun h3 => ?_)
      · have h3 : ¬ xs[i] = ys[i] := of_eqb_no (by simpa using h3)
        conv => whnf
        exact ⟨congrArg (fun x : Bool => [V.sc (.bool x)]) (show false = eqb xs ys by rw [← hout, hx, hy, eqb_no (fun e => h3 (List.cons.inj e).1)]), rfl⟩
      · have h3 : xs[i] = ys[i] := of_eqb (by simpa using h3)
        conv => whnf
        have hw : IntKind.i64.wrap ((i : Int) + 1) = ((i + 1 : Nat) : Int) := by rw [wrap64 (by omega) (by omega)]; omega
        have h5 := ih (i+1) ⟨by omega, by rw [← hout, hx, hy, eqb_cons h3]⟩ (by omega)
        rw [← hw] at h5
        exact h5
    · have hi1 : ¬ i < xs.length := by rw [hlx] at h2; have := of_decide_eq_false h2; omega
      conv => whnf
      exact ⟨congrArg (fun x : Bool => [V.sc (.bool x)]) (show true = eqb xs ys by rw [← hout, List.drop_eq_nil_of_le (by omega), List.drop_eq_nil_of_le (by omega), eqb_yes rfl]), rfl⟩
theorem eqDescS_ok (xs ys : List Desc) (hb : xs.length ≤ 1099511627776) (H : ∀ x ∈ xs, ∀ y ∈ ys, Fn Tryz.prog [] 69 [.agg x.acells, .agg y.acells] [] (ret [.sc (.bool (eqb x y))] [])) : Fn Tryz.prog [] 36 [.sh 3 (Desc.css xs), .sh 3 (Desc.css ys)] [] (ret [.sc (.bool (eqb xs ys))] []) := by
  refine fn_of Tryz.func36 (by kernel_rfl) ?_
  have hlx := Desc.css_len xs
  have hly := Desc.css_len ys
  conv => whnf
  rw [hlx, hly]
  refine ifP_of (fun h => ?_) (fun h => ?_)
  · have hne : ¬ xs = ys := fun e => by rw [e] at h; simp at h
    conv => whnf
    exact ⟨congrArg (fun x : Bool => [V.sc (.bool x)]) (eqb_no hne).symm, rfl⟩
  · have hlen : xs.length = ys.length := by
      simp only [bne_eq_false_iff_eq] at h; omega
    conv => whnf
    refine loop_of (A := Nat) (fun i => ⟨[(0, .sh 3 (Desc.css xs)), (1, .sh 3 (Desc.css ys)), (5, .sc (.int .i64 i))], [], 0, 27, 0⟩) (fun i => xs.length - i) (fun i => i ≤ xs.length ∧ eqb (xs.drop i) (ys.drop i) = eqb xs ys) 0 rfl ⟨Nat.zero_le _, by rw [List.drop_zero, List.drop_zero]⟩ ?_
    intro i ⟨hi, hout⟩ X ih
    conv => whnf
    refine ifP_of (fun h2 => ?_) (fun h2 => ?_)
    · have hi1 : i < xs.length := by rw [hlx] at h2; have := of_decide_eq_true h2; omega
      have hi2 : i < ys.length := by omega
      have hx : xs.drop i = xs[i] :: xs.drop (i+1) := List.drop_eq_getElem_cons hi1
      have hy : ys.drop i = ys[i] :: ys.drop (i+1) := List.drop_eq_getElem_cons hi2
      conv => whnf
      try (refine chkP_of (by simp; done) ?_; conv => whnf)
      refine optP_of (Desc.css_get hi1) ?_
      conv => whnf
      try (refine chkP_of (by simp; done) ?_; conv => whnf)
      refine optP_of (Desc.css_get hi2) ?_
      conv => whnf
      refine Fn.use (H xs[i] (List.getElem_mem hi1) ys[i] (List.getElem_mem hi2)) ?_
      conv => whnf
      refine ⟨trivial, ?_⟩
      conv => whnf
      refine ifP_of (fun h3 => ?_) (fun h3 => ?_)
      · have h3 : ¬ xs[i] = ys[i] := of_eqb_no (by simpa using h3)
        conv => whnf
        exact ⟨congrArg (fun x : Bool => [V.sc (.bool x)]) (show false = eqb xs ys by rw [← hout, hx, hy, eqb_no (fun e => h3 (List.cons.inj e).1)]), rfl⟩
      · have h3 : xs[i] = ys[i] := of_eqb (by simpa using h3)
        conv => whnf
        have hw : IntKind.i64.wrap ((i : Int) + 1) = ((i + 1 : Nat) : Int) := by rw [wrap64 (by omega) (by omega)]; omega
        have h5 := ih (i+1) ⟨by omega, by rw [← hout, hx, hy, eqb_cons h3]⟩ (by omega)
        rw [← hw] at h5
        exact h5
    · have hi1 : ¬ i < xs.length := by rw [hlx] at h2; have := of_decide_eq_false h2; omega
      conv => whnf
      exact ⟨congrArg (fun x : Bool => [V.sc (.bool x)]) (show true = eqb xs ys by rw [← hout, List.drop_eq_nil_of_le (by omega), List.drop_eq_nil_of_le (by omega), eqb_yes rfl]), rfl⟩
theorem eqEnumDescS_ok (xs ys : List EnumDesc) (hb : xs.length ≤ 1099511627776) (H : ∀ x ∈ xs, ∀ y ∈ ys, Fn Tryz.prog [] 70 [.agg x.acells, .agg y.acells] [] (ret [.sc (.bool (eqb x y))] [])) : Fn Tryz.prog [] 37 [.sh 3 (EnumDesc.css xs), .sh 3 (EnumDesc.css ys)] [] (ret [.sc (.bool (eqb xs ys))] []) := by
  refine fn_of Tryz.func37 (by kernel_rfl) ?_
  have hlx := EnumDesc.css_len xs
  have hly := EnumDesc.css_len ys
  conv => whnf
  rw [hlx, hly]
  refine ifP_of (fun h => ?_) (fun h => ?_)
  · have hne : ¬ xs = ys := fun e => by rw [e] at h; simp at h
    conv => whnf
    exact ⟨congrArg (fun x : Bool => [V.sc (.bool x)]) (eqb_no hne).symm, rfl⟩
  · have hlen : xs.length = ys.length := by
      simp only [bne_eq_false_iff_eq] at h; omega
    conv => whnf
    refine loop_of (A := Nat) (fun i => ⟨[(0, .sh 3 (EnumDesc.css xs)), (1, .sh 3 (EnumDesc.css ys)), (5, .sc (.int .i64 i))], [], 0, 27, 0⟩) (fun i => xs.length - i) (fun i => i ≤ xs.length ∧ eqb (xs.drop i) (ys.drop i) = eqb xs ys) 0 rfl ⟨Nat.zero_le _, by rw [List.drop_zero, List.drop_zero]⟩ ?_
    intro i ⟨hi, hout⟩ X ih
    conv => whnf
    refine ifP_of (fun h2 => ?_) (fun h2 => ?_)
    · have hi1 : i < xs.length := by rw [hlx] at h2; have := of_decide_eq_true h2; omega
      have hi2 : i < ys.length := by omega
      have hx : xs.drop i = xs[i] :: xs.drop (i+1) := List.drop_eq_getElem_cons hi1
      have hy : ys.drop i = ys[i] :: ys.drop (i+1) := List.drop_eq_getElem_cons hi2
      conv => whnf
      try (refine chkP_of (by simp; done) ?_; conv => whnf)
      refine optP_of (EnumDesc.css_get hi1) ?_
      conv => whnf
      try (refine chkP_of (by simp; done) ?_; conv => whnf)
      refine optP_of (EnumDesc.css_get hi2) ?_
      conv => whnf
      refine Fn.use (H xs[i] (List.getElem_mem hi1) ys[i] (List.getElem_mem hi2)) ?_
      conv => whnf
      refine ⟨trivial, ?_⟩
      conv => whnf
      refine ifP_of (fun h3 => ?_) (fun h3 => ?_)
      · have h3 : ¬ xs[i] = ys[i] := of_eqb_no (by simpa using h3)
        conv => whnf
        exact ⟨congrArg (fun x : Bool => [V.sc (.bool x)]) (show false = eqb xs ys by rw [← hout, hx, hy, eqb_no (fun e => h3 (List.cons.inj e).1)]), rfl⟩
      · have h3 : xs[i] = ys[i] := of_eqb (by simpa using h3)
        conv => whnf
        have hw : IntKind.i64.wrap ((i : Int) + 1) = ((i + 1 : Nat) : Int) := by rw [wrap64 (by omega) (by omega)]; omega
        have h5 := ih (i+1) ⟨by omega, by rw [← hout, hx, hy, eqb_cons h3]⟩ (by omega)
        rw [← hw] at h5
        exact h5
    · have hi1 : ¬ i < xs.length := by rw [hlx] at h2; have := of_decide_eq_false h2; omega
      conv => whnf
      exact ⟨congrArg (fun x : Bool => [V.sc (.bool x)]) (show true = eqb xs ys by rw [← hout, List.drop_eq_nil_of_le (by omega), List.drop_eq_nil_of_le (by omega), eqb_yes rfl]), rfl⟩
theorem eqFieldDesc_ok (a b : FieldDesc)  : Fn Tryz.prog [] 146 [.agg a.acells, .agg b.acells] [] (ret [.sc (.bool (eqb a b))] []) := by
  obtain ⟨a_name, a_num, a_kind, a_ref, a_rep, a_oneof⟩ := a
  obtain ⟨b_name, b_num, b_kind, b_ref, b_rep, b_oneof⟩ := b
  refine fn_of Tryz.func146 (by kernel_rfl) ?_
  conv => whnf
  refine ifP_of (fun h => ?_) (fun h => ?_)
  · have h : ¬ a_name = b_name := by simpa [bytes_eq] using h
    conv => whnf
    exact ⟨congrArg (fun x : Bool => [V.sc (.bool x)]) (eqb_no (fun e => h (by injection e))).symm, rfl⟩
  · have g0 : a_name = b_name := by simpa [bytes_eq] using h
    conv => whnf
    refine ifP_of (fun h => ?_) (fun h => ?_)
    · have h : ¬ a_num = b_num := by simpa [bytes_eq] using h
      conv => whnf
      exact ⟨congrArg (fun x : Bool => [V.sc (.bool x)]) (eqb_no (fun e => h (by injection e))).symm, rfl⟩
    · have g1 : a_num = b_num := by simpa [bytes_eq] using h
      conv => whnf
      refine ifP_of (fun h => ?_) (fun h => ?_)
      · have h : ¬ a_kind = b_kind := by simpa [bytes_eq] using h
        conv => whnf
        exact ⟨congrArg (fun x : Bool => [V.sc (.bool x)]) (eqb_no (fun e => h (by injection e))).symm, rfl⟩
      · have g2 : a_kind = b_kind := by simpa [bytes_eq] using h
        conv => whnf
        refine ifP_of (fun h => ?_) (fun h => ?_)
        · have h : ¬ a_ref = b_ref := by simpa [bytes_eq] using h
          conv => whnf
          exact ⟨congrArg (fun x : Bool => [V.sc (.bool x)]) (eqb_no (fun e => h (by injection e))).symm, rfl⟩
        · have g3 : a_ref = b_ref := by simpa [bytes_eq] using h
          conv => whnf
          refine ifP_of (fun h => ?_) (fun h => ?_)
          · have h : ¬ a_rep = b_rep := by simpa [bytes_eq] using h
            conv => whnf
            exact ⟨congrArg (fun x : Bool => [V.sc (.bool x)]) (eqb_no (fun e => h (by injection e))).symm, rfl⟩
          · have g4 : a_rep = b_rep := by simpa [bytes_eq] using h
            conv => whnf
            refine ifP_of (fun h => ?_) (fun h => ?_)
            · have h : ¬ a_oneof = b_oneof := by simpa [bytes_eq] using h
              conv => whnf
              exact ⟨congrArg (fun x : Bool => [V.sc (.bool x)]) (eqb_no (fun e => h (by injection e))).symm, rfl⟩
            · have g5 : a_oneof = b_oneof := by simpa [bytes_eq] using h
              conv => whnf
              exact ⟨congrArg (fun x : Bool => [V.sc (.bool x)]) (eqb_yes (by rw [g0, g1, g2, g3, g4, g5])).symm, rfl⟩
theorem eqDesc_ok (a b : Desc) (H_fields : Fn Tryz.prog [] 115 [.sh 6 (FieldDesc.css a.fields), .sh 6 (FieldDesc.css b.fields)] [] (ret [.sc (.bool (eqb a.fields b.fields))] [])) (H_oneofs : Fn Tryz.prog [] 116 [.sh 1 (strC a.oneofs), .sh 1 (strC b.oneofs)] [] (ret [.sc (.bool (eqb a.oneofs b.oneofs))] [])) : Fn Tryz.prog [] 69 [.agg a.acells, .agg b.acells] [] (ret [.sc (.bool (eqb a b))] []) := by
  obtain ⟨a_name, a_fields, a_oneofs⟩ := a
  obtain ⟨b_name, b_fields, b_oneofs⟩ := b
  refine fn_of Tryz.func69 (by kernel_rfl) ?_
  conv => whnf
  refine ifP_of (fun h => ?_) (fun h => ?_)
  · have h : ¬ a_name = b_name := by simpa [bytes_eq] using h
    conv => whnf
    exact ⟨congrArg (fun x : Bool => [V.sc (.bool x)]) (eqb_no (fun e => h (by injection e))).symm, rfl⟩
  · have g0 : a_name = b_name := by simpa [bytes_eq] using h
    conv => whnf
    refine Fn.use H_fields ?_
    conv => whnf
    refine ⟨trivial, ?_⟩
    conv => whnf
    refine ifP_of (fun h => ?_) (fun h => ?_)
    · have h : ¬ a_fields = b_fields := of_eqb_no (by simpa using h)
      conv => whnf
      exact ⟨congrArg (fun x : Bool => [V.sc (.bool x)]) (eqb_no (fun e => h (by injection e))).symm, rfl⟩
    · have g1 : a_fields = b_fields := of_eqb (by simpa using h)
      conv => whnf
      refine Fn.use H_oneofs ?_
      conv => whnf
      refine ⟨trivial, ?_⟩
      conv => whnf
      refine ifP_of (fun h => ?_) (fun h => ?_)
      · have h : ¬ a_oneofs = b_oneofs := of_eqb_no (by simpa using h)
        conv => whnf
        exact ⟨congrArg (fun x : Bool => [V.sc (.bool x)]) (eqb_no (fun e => h (by injection e))).symm, rfl⟩
      · have g2 : a_oneofs = b_oneofs := of_eqb (by simpa using h)
        conv => whnf
        exact ⟨congrArg (fun x : Bool => [V.sc (.bool x)]) (eqb_yes (by rw [g0, g1, g2])).symm, rfl⟩
theorem eqEnumDesc_ok (a b : EnumDesc) (H_names : Fn Tryz.prog [] 116 [.sh 1 (strC a.names), .sh 1 (strC b.names)] [] (ret [.sc (.bool (eqb a.names b.names))] [])) (H_nums : Fn Tryz.prog [] 23 [.sh 1 (intC a.nums), .sh 1 (intC b.nums)] [] (ret [.sc (.bool (eqb a.nums b.nums))] [])) : Fn Tryz.prog [] 70 [.agg a.acells, .agg b.acells] [] (ret [.sc (.bool (eqb a b))] []) := by
  obtain ⟨a_name, a_names, a_nums⟩ := a
  obtain ⟨b_name, b_names, b_nums⟩ := b
  refine fn_of Tryz.func70 (by kernel_rfl) ?_
  conv => whnf
  refine ifP_of (fun h => ?_) (fun h => ?_)
  · have h : ¬ a_name = b_name := by simpa [bytes_eq] using h
    conv => whnf
    exact ⟨congrArg (fun x : Bool => [V.sc (.bool x)]) (eqb_no (fun e => h (by injection e))).symm, rfl⟩
  · have g0 : a_name = b_name := by simpa [bytes_eq] using h
    conv => whnf
    refine Fn.use H_names ?_
    conv => whnf
    refine ⟨trivial, ?_⟩
    conv => whnf
    refine ifP_of (fun h => ?_) (fun h => ?_)
    · have h : ¬ a_names = b_names := of_eqb_no (by simpa using h)
      conv => whnf
      exact ⟨congrArg (fun x : Bool => [V.sc (.bool x)]) (eqb_no (fun e => h (by injection e))).symm, rfl⟩
    · have g1 : a_names = b_names := of_eqb (by simpa using h)
      conv => whnf
      refine Fn.use H_nums ?_
      conv => whnf
      refine ⟨trivial, ?_⟩
      conv => whnf
      refine ifP_of (fun h => ?_) (fun h => ?_)
      · have h : ¬ a_nums = b_nums := of_eqb_no (by simpa using h)
        conv => whnf
        exact ⟨congrArg (fun x : Bool => [V.sc (.bool x)]) (eqb_no (fun e => h (by injection e))).symm, rfl⟩
      · have g2 : a_nums = b_nums := of_eqb (by simpa using h)
        conv => whnf
        exact ⟨congrArg (fun x : Bool => [V.sc (.bool x)]) (eqb_yes (by rw [g0, g1, g2])).symm, rfl⟩
theorem eqSchema_ok (a b : Schema) (H_descs : Fn Tryz.prog [] 36 [.sh 3 (Desc.css a.descs), .sh 3 (Desc.css b.descs)] [] (ret [.sc (.bool (eqb a.descs b.descs))] [])) (H_enums : Fn Tryz.prog [] 37 [.sh 3 (EnumDesc.css a.enums), .sh 3 (EnumDesc.css b.enums)] [] (ret [.sc (.bool (eqb a.enums b.enums))] [])) : Fn Tryz.prog [] 10 [.agg a.acells, .agg b.acells] [] (ret [.sc (.bool (eqb a b))] []) := by
  obtain ⟨a_descs, a_enums⟩ := a
  obtain ⟨b_descs, b_enums⟩ := b
  refine fn_of Tryz.func10 (by kernel_rfl) ?_
  conv => whnf
  refine Fn.use H_descs ?_
  conv => whnf
  refine ⟨trivial, ?_⟩
  conv => whnf
  refine ifP_of (fun h => ?_) (fun h => ?_)
  · have h : ¬ a_descs = b_descs := of_eqb_no (by simpa using h)
    conv => whnf
    exact ⟨congrArg (fun x : Bool => [V.sc (.bool x)]) (eqb_no (fun e => h (by injection e))).symm, rfl⟩
  · have g0 : a_descs = b_descs := of_eqb (by simpa using h)
    conv => whnf
    refine Fn.use H_enums ?_
    conv => whnf
    refine ⟨trivial, ?_⟩
    conv => whnf
    refine ifP_of (fun h => ?_) (fun h => ?_)
    · have h : ¬ a_enums = b_enums := of_eqb_no (by simpa using h)
      conv => whnf
      exact ⟨congrArg (fun x : Bool => [V.sc (.bool x)]) (eqb_no (fun e => h (by injection e))).symm, rfl⟩
    · have g1 : a_enums = b_enums := of_eqb (by simpa using h)
      conv => whnf
      exact ⟨congrArg (fun x : Bool => [V.sc (.bool x)]) (eqb_yes (by rw [g0, g1])).symm, rfl⟩
theorem eqFieldDesc_all (a : FieldDesc) (ha : a.w ≤ 1048576) : ∀ b : FieldDesc, Fn Tryz.prog [] 146 [.agg a.acells, .agg b.acells] [] (ret [.sc (.bool (eqb a b))] []) := by
    intro b
    obtain ⟨a_name, a_num, a_kind, a_ref, a_rep, a_oneof⟩ := a
    have ha : a_name.size ≤ 1048576 := ha
    obtain ⟨b_name, b_num, b_kind, b_ref, b_rep, b_oneof⟩ := b
    exact eqFieldDesc_ok _ _ 
theorem eqFieldDescS_all (xs ys : List FieldDesc) (h : FieldDesc.ws xs ≤ 1048576) : Fn Tryz.prog [] 115 [.sh 6 (FieldDesc.css xs), .sh 6 (FieldDesc.css ys)] [] (ret [.sc (.bool (eqb xs ys))] []) := by
  unfold FieldDesc.ws at h
  exact eqFieldDescS_ok xs ys (by omega) (fun x hx y hy => eqFieldDesc_all x (by have := FieldDesc.ss_mem hx; omega) y)
theorem eqDesc_all (a : Desc) (ha : a.w ≤ 1048576) : ∀ b : Desc, Fn Tryz.prog [] 69 [.agg a.acells, .agg b.acells] [] (ret [.sc (.bool (eqb a b))] []) := by
    intro b
    obtain ⟨a_name, a_fields, a_oneofs⟩ := a
    have ha : a_name.size + FieldDesc.ws a_fields + strW a_oneofs ≤ 1048576 := ha
    obtain ⟨b_name, b_fields, b_oneofs⟩ := b
    exact eqDesc_ok _ _ (eqFieldDescS_all a_fields b_fields (by omega)) (eqStringS_ok a_oneofs b_oneofs (by unfold strW at ha; omega))
theorem eqDescS_all (xs ys : List Desc) (h : Desc.ws xs ≤ 1048576) : Fn Tryz.prog [] 36 [.sh 3 (Desc.css xs), .sh 3 (Desc.css ys)] [] (ret [.sc (.bool (eqb xs ys))] []) := by
  unfold Desc.ws at h
  exact eqDescS_ok xs ys (by omega) (fun x hx y hy => eqDesc_all x (by have := Desc.ss_mem hx; omega) y)
theorem eqEnumDesc_all (a : EnumDesc) (ha : a.w ≤ 1048576) : ∀ b : EnumDesc, Fn Tryz.prog [] 70 [.agg a.acells, .agg b.acells] [] (ret [.sc (.bool (eqb a b))] []) := by
    intro b
    obtain ⟨a_name, a_names, a_nums⟩ := a
    have ha : a_name.size + strW a_names + a_nums.length ≤ 1048576 := ha
    obtain ⟨b_name, b_names, b_nums⟩ := b
    exact eqEnumDesc_ok _ _ (eqStringS_ok a_names b_names (by unfold strW at ha; omega)) (eqIntS_ok a_nums b_nums (by omega))
theorem eqEnumDescS_all (xs ys : List EnumDesc) (h : EnumDesc.ws xs ≤ 1048576) : Fn Tryz.prog [] 37 [.sh 3 (EnumDesc.css xs), .sh 3 (EnumDesc.css ys)] [] (ret [.sc (.bool (eqb xs ys))] []) := by
  unfold EnumDesc.ws at h
  exact eqEnumDescS_ok xs ys (by omega) (fun x hx y hy => eqEnumDesc_all x (by have := EnumDesc.ss_mem hx; omega) y)
theorem eqSchema_all (a : Schema) (ha : a.w ≤ 1048576) : ∀ b : Schema, Fn Tryz.prog [] 10 [.agg a.acells, .agg b.acells] [] (ret [.sc (.bool (eqb a b))] []) := by
    intro b
    obtain ⟨a_descs, a_enums⟩ := a
    have ha : Desc.ws a_descs + EnumDesc.ws a_enums ≤ 1048576 := ha
    obtain ⟨b_descs, b_enums⟩ := b
    exact eqSchema_ok _ _ (eqDescS_all a_descs b_descs (by omega)) (eqEnumDescS_all a_enums b_enums (by omega))
end Ev
open Go Ev
open Go.Proofs
set_option maxRecDepth 100000
set_option maxHeartbeats 4000000
set_option linter.unusedVariables false
namespace Ev
theorem il' {x y : Int} (h : x = y) : [V.sc (.int .i64 x)] = [V.sc (.int .i64 y)] := by rw [h]
theorem gset {D R : List (List V)} (r : List V) : (D ++ r :: R)[((D.length : Nat) : Int).toNat]? = some r := by
  rw [Int.toNat_natCast, List.getElem?_append_right (Nat.le_refl _), Nat.sub_self]; rfl
theorem pset {D R : List (List V)} (r x : List V) : putAt (fun es => es.set ((D.length : Nat) : Int).toNat x) (D ++ r :: R) [] = D ++ x :: R := by
  show (D ++ r :: R).set ((D.length : Nat) : Int).toNat x = _
  rw [Int.toNat_natCast, List.set_append_right (h := Nat.le_refl _), Nat.sub_self]; rfl
theorem hwk {k : Int} (h0 : 0 ≤ k) (h1 : k ≤ 4611686018427387904) : IntKind.i64.wrap (k + 1) = k + 1 := wrap64 (by omega) (by omega)
theorem hwn {n : Nat} (h1 : n ≤ 4611686018427387904) : IntKind.i64.wrap ((n : Int) + 1) = ((n + 1 : Nat) : Int) := by rw [wrap64 (by omega) (by omega)]; omega
theorem lenl {D R : List (List V)} {r : List V} : decide (((D.length : Nat) : Int) < (((D ++ r :: R).length : Nat) : Int)) = true := by rw [List.length_append, List.length_cons]; exact decide_eq_true (by omega)
theorem ifP_no {b : Bool} {A B : Prop} (h : b = false) (k : B) : ifP b A B := by rw [h]; exact k
theorem ifP_yes {b : Bool} {A B : Prop} (h : b = true) (k : A) : ifP b A B := by rw [h]; exact k
theorem neI (x : Int) : (x != x) = false := by simp
theorem neB (x : Bool) : (x != x) = false := by simp
theorem neS (x : ByteArray) : (!(x.toList == x.toList)) = false := by simp
def mkSt (n fz : Nat) (D R : List (List V)) (k : Int) : St := ⟨[(0, .hdr 0 []), (1, .sc (.int .i64 k)), (5, .sc (.int .i64 D.length))], [(0, some ⟨D ++ R, true, n, false⟩)], 1, fz, 1⟩
def hdSt (n fz : Nat) (D R : List (List V)) (k : Int) : St := ⟨[(0, .sh n (D ++ R)), (1, .sc (.int .i64 k)), (5, .sc (.int .i64 D.length))], [], 0, fz, 0⟩
def eM {α : Type} (n fz : Nat) (css : List α → List (List V)) (x : List α × List α × Int) : St := mkSt n fz (css x.1) (css x.2.1) x.2.2
def eK {α : Type} (n fz : Nat) (cssk : List α → Int → List (List V)) (x : List (List V) × List α × Int) : St := hdSt n fz x.1 (cssk x.2.1 x.2.2) x.2.2
theorem eM_eq {α : Type} (n fz : Nat) (css : List α → List (List V)) (d r : List α) (k : Int) : eM n fz css (d, r, k) = ⟨[(0, .hdr 0 []), (1, .sc (.int .i64 k)), (5, .sc (.int .i64 (css d).length))], [(0, some ⟨css d ++ css r, true, n, false⟩)], 1, fz, 1⟩ := rfl
theorem eK_eq {α : Type} (n fz : Nat) (cssk : List α → Int → List (List V)) (D : List (List V)) (r : List α) (k : Int) : eK n fz cssk (D, r, k) = ⟨[(0, .sh n (D ++ cssk r k)), (1, .sc (.int .i64 k)), (5, .sc (.int .i64 D.length))], [], 0, fz, 0⟩ := rfl
theorem intC_app (d : List Int) (a : Int) (R : List (List V)) : intC d ++ [.sc (.int .i64 a)] :: R = intC (d ++ [a]) ++ R := by unfold intC; rw [List.map_append, List.append_assoc]; rfl
theorem byteC_app' (d : List Int) (a : Int) (R : List (List V)) : byteC d ++ [.sc (.int .u8 a)] :: R = byteC (d ++ [a]) ++ R := by unfold byteC; rw [List.map_append, List.append_assoc]; rfl
theorem strC_app (d : List ByteArray) (a : ByteArray) (R : List (List V)) : strC d ++ [.sc (.string a)] :: R = strC (d ++ [a]) ++ R := by unfold strC; rw [List.map_append, List.append_assoc]; rfl
theorem intC_cons (a : Int) (l : List Int) : intC (a :: l) = [.sc (.int .i64 a)] :: intC l := rfl
theorem byteC_cons (a : Int) (l : List Int) : byteC (a :: l) = [.sc (.int .u8 a)] :: byteC l := rfl
theorem strC_cons (a : ByteArray) (l : List ByteArray) : strC (a :: l) = [.sc (.string a)] :: strC l := rfl
/-- Figures of a number, behind what is there. -/
def figF (x : Int × ByteArray) : Int × ByteArray := (IntKind.i64.wrap (x.1.tdiv 10), (⟨#[(48 + x.1.toNat % 10).toUInt8]⟩ : ByteArray) ++ x.2)
def figs : Nat → Int × ByteArray → ByteArray
  | 0, x => x.2
  | n + 1, x => match decide (x.1 > 0) with
    | true => figs n (figF x)
    | false => x.2
def txtM (k : Int) : ByteArray := match decide (k ≤ 0) with
  | true => ⟨#[109, 48]⟩
  | false => (⟨#[109]⟩ : ByteArray) ++ figs 20 (k, .empty)
def intM : List Int → Int → List Int
  | [], _ => []
  | _ :: l, k => k :: intM l (k + 1)
def byteM : List Int → Int → List Int
  | [], _ => []
  | _ :: l, k => IntKind.u8.wrap k :: byteM l (k + 1)
def strM : List ByteArray → Int → List ByteArray
  | [], _ => []
  | _ :: l, k => txtM k :: strM l (k + 1)
theorem fig_byte {k : Int} (h0 : 0 < k) : IntKind.u8.wrap (IntKind.i64.wrap (48 + k.tmod 10)) = (((48 + k.toNat % 10).toUInt8).toNat : Int) := by
  rw [Int.tmod_eq_emod_of_nonneg (by omega), wrap64 (by omega) (by omega), IntKind.wrap_u8]
  have : ((48 + k.toNat % 10).toUInt8).toNat = 48 + k.toNat % 10 := by
    show (48 + k.toNat % 10) % 256 = _
    omega
  rw [this]; omega
theorem markText_ok (k : Int) (h0 : 0 ≤ k) (h1 : k ≤ 4611686018427387904) : Fn Tryz.prog [] 73 [.sc (.int .i64 k)] [] (ret [.sc (.string (txtM k))] []) := by
  have hr : txtM k = match decide (k ≤ 0) with
    | true => ⟨#[109, 48]⟩
    | false => (⟨#[109]⟩ : ByteArray) ++ figs 20 (k, .empty) := rfl
  generalize txtM k = R at *
  refine fn_of Tryz.func73 (by kernel_rfl) ?_
  conv => whnf
  refine ifP_of (fun c0 => ?_) (fun c0 => ?_)
  · rw [c0] at hr
    subst hr
    conv => whnf
    exact ⟨rfl, rfl⟩
  rw [c0] at hr
  dsimp only at hr
  generalize hF : figs 20 (k, .empty) = F at *
  conv => whnf
  refine loop_of (A := Nat × Int × ByteArray) (fun x => ⟨[(0, .sc (.int .i64 x.2.1)), (3, .sc (.string x.2.2))], [], 0, 20, 0⟩) (fun x => x.2.1.toNat) (fun x => 0 ≤ x.2.1 ∧ x.2.1 < 10 ^ x.1 ∧ x.2.1 ≤ 4611686018427387904 ∧ x.2.2.size + x.1 ≤ 20 ∧ figs x.1 (x.2.1, x.2.2) = F) (20, k, .empty) rfl ⟨h0, by show k < 10 ^ 20; omega, h1, Nat.le_refl 20, hF⟩ ?_
  clear hF h0 h1 c0
  intro ⟨n, k, s⟩ ⟨h0, h2, h1, h3, hF⟩ X ih
  dsimp only at h0 h2 h1 h3 hF
  conv => whnf
  refine ifP_of (fun c1 => ?_) (fun c1 => ?_)
  · have c1' : k > 0 := of_decide_eq_true c1
    obtain ⟨n, rfl⟩ : ∃ m, n = m + 1 := ⟨n - 1, by
      rcases n with _ | n
      · have : k < 1 := h2
        omega
      · omega⟩
    rw [figs, show decide ((k, s).1 > 0) = true from c1] at hF
    have hq : IntKind.i64.wrap (k.tdiv 10) = k / 10 := by rw [Int.tdiv_eq_ediv_of_nonneg (by omega)]; exact wrap64 (by omega) (by omega)
    have hb := fig_byte c1'
    have hsz : (⟨#[(48 + k.toNat % 10).toUInt8]⟩ : ByteArray).size = 1 := rfl
    have h4 : k / 10 < 10 ^ n := by
      rw [Int.pow_succ] at h2
      omega
    have fin := ih (n, k / 10, (⟨#[(48 + k.toNat % 10).toUInt8]⟩ : ByteArray) ++ s) ⟨by dsimp only; omega, h4, by dsimp only; omega, by dsimp only; rw [ByteArray.size_append, hsz]; omega, by
      rw [← hF]
      show figs n (k / 10, _) = figs n (figF (k, s))
      rw [figF, hq]⟩ (by dsimp only; omega)
    dsimp only at fin
    rw [← hq] at fin
    clear ih hF
    conv => whnf
    refine ⟨[(48 + k.toNat % 10).toUInt8], ?_, ?_⟩
    · rw [hb]; rfl
    conv => whnf
    refine chkP_of ?hchk ?_
    case hchk => first | exact decide_eq_true (by omega) | (simp; done) | (simp; omega) | exact decide_eq_true (show (⟨#[(48 + k.toNat % 10).toUInt8]⟩ : ByteArray).size + s.size ≤ 9223372036854775807 by rw [hsz]; omega)
    conv => whnf
    exact fin
  · have c1' : ¬ k > 0 := of_decide_eq_false c1
    have h5 : s = F := by
      rw [← hF]
      cases n with
      | zero => rfl
      | succ n => rw [figs, show decide ((k, s).1 > 0) = false from c1]
    subst h5
    conv => whnf
    refine chkP_of ?hchk ?_
    case hchk => first | exact decide_eq_true (by omega) | (simp; done) | (simp; omega) | exact decide_eq_true (show (⟨#[109]⟩ : ByteArray).size + s.size ≤ 9223372036854775807 by have : (⟨#[109]⟩ : ByteArray).size = 1 := rfl; rw [this]; omega)
    conv => whnf
    subst hr
    exact ⟨rfl, rfl⟩
theorem markIntS_ok (l : List Int) (k : Int) (h0 : 0 ≤ k) (hb : k + ((l.length : Nat) : Int) ≤ 4611686018427387904) : Fn Tryz.prog [] 26 [.hdr 0 [], .sc (.int .i64 k)] [⟨intC l, true, 1, false⟩] (ret [.sc (.int .i64 (k + ((l.length : Nat) : Int)))] [⟨intC (intM l k), true, 1, false⟩]) := by
  have hl : l.length ≤ 4611686018427387904 := by omega
  generalize hF : intM l k = F
  generalize hK : k + ((l.length : Nat) : Int) = K at *
  refine fn_of Tryz.func26 (by kernel_rfl) ?_
  conv => whnf
  refine loop_of (A := List Int × List Int × Int) (eM 1 19 intC) (fun x => x.2.1.length) (fun x => x.1 ++ intM x.2.1 x.2.2 = F ∧ x.2.2 + ((x.2.1.length : Nat) : Int) = K ∧ 0 ≤ x.2.2 ∧ x.1.length + x.2.1.length ≤ 4611686018427387904) ([], l, k) rfl ⟨hF, hK, h0, by simpa using hl⟩ ?_
  clear hF hK h0 hl
  intro ⟨d, r, k⟩ ⟨h1, h2, h3, h4⟩ X ih
  dsimp only at h1 h2 h3 h4
  cases r with
  | nil =>
    have h6 : d = F := by rw [← h1]; simp [intM]
    rw [eM_eq, show intC [] = [] from rfl, List.append_nil]
    subst h6
    generalize intC d = D at *
    conv => whnf
    refine ifP_of (fun c1 => ?_) (fun c1 => ?_)
    · have := of_decide_eq_true c1; omega
    · conv => whnf
      exact ⟨il' (by rw [← h2]; simp), rfl⟩
  | cons a r =>
    rw [show List.length (a :: r) = r.length + 1 from by rfl] at h2
    rw [List.length_cons] at h4
    have fin := ih (d ++ [k], r, k + 1) ⟨by dsimp only; rw [← h1, intM, List.append_assoc]; rfl, by dsimp only; omega, by dsimp only; omega, by dsimp only; rw [List.length_append, List.length_singleton]; omega⟩ (by dsimp only; rw [List.length_cons]; omega)
    rw [eM_eq, ← intC_app] at fin
    rw [show ((intC (d ++ [k])).length : Nat) = (intC d).length + 1 by rw [intC_len, intC_len, List.length_append]; rfl] at fin
    rw [eM_eq]
    have hlen : (intC d).length = d.length := intC_len _
    have hw2 := hwn (n := (intC d).length) (by omega)
    clear ih h1
    generalize intC d = D at *
    rw [show intC (a :: r) = [.sc (.int .i64 a)] :: intC r from rfl]
    generalize intC r = R at *
    conv => whnf
    refine ifP_yes lenl ?_
    conv => whnf
    repeat' (first
      | (refine optP_of (gset _) ?_; (conv => whnf))
      | rw [pset]
      | rw [hwk (k := k) (by omega) (by omega)]
      | rw [hw2])
    exact fin
theorem heldIntS_ok (l : List Int) (k : Int) (h0 : 0 ≤ k) (hb : k + ((l.length : Nat) : Int) ≤ 4611686018427387904) : Fn Tryz.prog [] 28 [.sh 1 (intC (intM l k)), .sc (.int .i64 k)] [] (ret [.sc (.int .i64 (k + ((l.length : Nat) : Int)))] []) := by
  have hl : l.length ≤ 4611686018427387904 := by omega
  generalize hK : k + ((l.length : Nat) : Int) = K at *
  refine fn_of Tryz.func28 (by kernel_rfl) ?_
  conv => whnf
  refine loop_of (A := List (List V) × List Int × Int) (eK 1 21 (fun r k => intC (intM r k))) (fun x => x.2.1.length) (fun x => x.2.2 + ((x.2.1.length : Nat) : Int) = K ∧ 0 ≤ x.2.2 ∧ x.1.length + x.2.1.length ≤ 4611686018427387904) ([], l, k) rfl ⟨hK, h0, by simpa using hl⟩ ?_
  clear hK h0 hl
  intro ⟨D, r, k⟩ ⟨h2, h3, h4⟩ X ih
  dsimp only at h2 h3 h4
  cases r with
  | nil =>
    rw [eK_eq, show intC (intM [] k) = [] from by rw [intM]; rfl, List.append_nil]
    conv => whnf
    refine ifP_of (fun c1 => ?_) (fun c1 => ?_)
    · have := of_decide_eq_true c1; omega
    · conv => whnf
      exact ⟨il' (by rw [← h2]; simp), rfl⟩
  | cons a r =>
    rw [show List.length (a :: r) = r.length + 1 from by rfl] at h2
    rw [List.length_cons] at h4
    have fin := ih (D ++ [[.sc (.int .i64 k)]], r, k + 1) ⟨by dsimp only; omega, by dsimp only; omega, by dsimp only; rw [List.length_append, List.length_singleton]; omega⟩ (by dsimp only; rw [List.length_cons]; omega)
    rw [eK_eq, List.append_assoc, List.length_append, List.length_singleton] at fin
    rw [eK_eq, show intC (intM (a :: r) k) = [.sc (.int .i64 k)] :: intC (intM r (k + 1)) from by rw [intM, intC_cons]]
    have fin : X ⟨[(0, .sh 1 (D ++ [.sc (.int .i64 k)] :: intC (intM r (k + 1)))), (1, .sc (.int .i64 (k + 1))), (5, .sc (.int .i64 ((D.length + 1 : Nat) : Int)))], [], 0, 21, 0⟩ := fin
    have hw2 := hwn (n := D.length) (by omega)
    clear ih
    generalize intC (intM r (k + 1)) = R at *
    conv => whnf
    refine ifP_yes lenl ?_
    conv => whnf
    repeat' (first
      | (refine optP_of (gset _) ?_; (conv => whnf))
      | rw [hwk (k := k) (by omega) (by omega)]
      | rw [hw2]
      | (refine ifP_no (neI _) ?_; (conv => whnf))
      | (refine ifP_no (neB _) ?_; (conv => whnf))
      | (refine ifP_no (neS _) ?_; (conv => whnf))
      | (refine ifP_no (decide_eq_false (by omega)) ?_; (conv => whnf)))
    exact fin
theorem markByteS_ok (l : List Int) (k : Int) (h0 : 0 ≤ k) (hb : k + ((l.length : Nat) : Int) ≤ 4611686018427387904) : Fn Tryz.prog [] 25 [.hdr 0 [], .sc (.int .i64 k)] [⟨byteC l, true, 1, false⟩] (ret [.sc (.int .i64 (k + ((l.length : Nat) : Int)))] [⟨byteC (byteM l k), true, 1, false⟩]) := by
  have hl : l.length ≤ 4611686018427387904 := by omega
  generalize hF : byteM l k = F
  generalize hK : k + ((l.length : Nat) : Int) = K at *
  refine fn_of Tryz.func25 (by kernel_rfl) ?_
  conv => whnf
  refine loop_of (A := List Int × List Int × Int) (eM 1 20 byteC) (fun x => x.2.1.length) (fun x => x.1 ++ byteM x.2.1 x.2.2 = F ∧ x.2.2 + ((x.2.1.length : Nat) : Int) = K ∧ 0 ≤ x.2.2 ∧ x.1.length + x.2.1.length ≤ 4611686018427387904) ([], l, k) rfl ⟨hF, hK, h0, by simpa using hl⟩ ?_
  clear hF hK h0 hl
  intro ⟨d, r, k⟩ ⟨h1, h2, h3, h4⟩ X ih
  dsimp only at h1 h2 h3 h4
  cases r with
  | nil =>
    have h6 : d = F := by rw [← h1]; simp [byteM]
    rw [eM_eq, show byteC [] = [] from rfl, List.append_nil]
    subst h6
    generalize byteC d = D at *
    conv => whnf
    refine ifP_of (fun c1 => ?_) (fun c1 => ?_)
    · have := of_decide_eq_true c1; omega
    · conv => whnf
      exact ⟨il' (by rw [← h2]; simp), rfl⟩
  | cons a r =>
    rw [show List.length (a :: r) = r.length + 1 from by rfl] at h2
    rw [List.length_cons] at h4
    have fin := ih (d ++ [(IntKind.u8.wrap k)], r, k + 1) ⟨by dsimp only; rw [← h1, byteM, List.append_assoc]; rfl, by dsimp only; omega, by dsimp only; omega, by dsimp only; rw [List.length_append, List.length_singleton]; omega⟩ (by dsimp only; rw [List.length_cons]; omega)
    rw [eM_eq, ← byteC_app'] at fin
    rw [show ((byteC (d ++ [(IntKind.u8.wrap k)])).length : Nat) = (byteC d).length + 1 by rw [byteC_len, byteC_len, List.length_append]; rfl] at fin
    rw [eM_eq]
    have hlen : (byteC d).length = d.length := byteC_len _
    have hw2 := hwn (n := (byteC d).length) (by omega)
    clear ih h1
    generalize byteC d = D at *
    rw [show byteC (a :: r) = [.sc (.int .u8 a)] :: byteC r from rfl]
    generalize byteC r = R at *
    conv => whnf
    refine ifP_yes lenl ?_
    conv => whnf
    repeat' (first
      | (refine optP_of (gset _) ?_; (conv => whnf))
      | rw [pset]
      | rw [hwk (k := k) (by omega) (by omega)]
      | rw [hw2])
    exact fin
theorem heldByteS_ok (l : List Int) (k : Int) (h0 : 0 ≤ k) (hb : k + ((l.length : Nat) : Int) ≤ 4611686018427387904) : Fn Tryz.prog [] 27 [.sh 1 (byteC (byteM l k)), .sc (.int .i64 k)] [] (ret [.sc (.int .i64 (k + ((l.length : Nat) : Int)))] []) := by
  have hl : l.length ≤ 4611686018427387904 := by omega
  generalize hK : k + ((l.length : Nat) : Int) = K at *
  refine fn_of Tryz.func27 (by kernel_rfl) ?_
  conv => whnf
  refine loop_of (A := List (List V) × List Int × Int) (eK 1 22 (fun r k => byteC (byteM r k))) (fun x => x.2.1.length) (fun x => x.2.2 + ((x.2.1.length : Nat) : Int) = K ∧ 0 ≤ x.2.2 ∧ x.1.length + x.2.1.length ≤ 4611686018427387904) ([], l, k) rfl ⟨hK, h0, by simpa using hl⟩ ?_
  clear hK h0 hl
  intro ⟨D, r, k⟩ ⟨h2, h3, h4⟩ X ih
  dsimp only at h2 h3 h4
  cases r with
  | nil =>
    rw [eK_eq, show byteC (byteM [] k) = [] from by rw [byteM]; rfl, List.append_nil]
    conv => whnf
    refine ifP_of (fun c1 => ?_) (fun c1 => ?_)
    · have := of_decide_eq_true c1; omega
    · conv => whnf
      exact ⟨il' (by rw [← h2]; simp), rfl⟩
  | cons a r =>
    rw [show List.length (a :: r) = r.length + 1 from by rfl] at h2
    rw [List.length_cons] at h4
    have fin := ih (D ++ [[.sc (.int .u8 (IntKind.u8.wrap k))]], r, k + 1) ⟨by dsimp only; omega, by dsimp only; omega, by dsimp only; rw [List.length_append, List.length_singleton]; omega⟩ (by dsimp only; rw [List.length_cons]; omega)
    rw [eK_eq, List.append_assoc, List.length_append, List.length_singleton] at fin
    rw [eK_eq, show byteC (byteM (a :: r) k) = [.sc (.int .u8 (IntKind.u8.wrap k))] :: byteC (byteM r (k + 1)) from by rw [byteM, byteC_cons]]
    have fin : X ⟨[(0, .sh 1 (D ++ [.sc (.int .u8 (IntKind.u8.wrap k))] :: byteC (byteM r (k + 1)))), (1, .sc (.int .i64 (k + 1))), (5, .sc (.int .i64 ((D.length + 1 : Nat) : Int)))], [], 0, 22, 0⟩ := fin
    have hw2 := hwn (n := D.length) (by omega)
    clear ih
    generalize byteC (byteM r (k + 1)) = R at *
    conv => whnf
    refine ifP_yes lenl ?_
    conv => whnf
    repeat' (first
      | (refine optP_of (gset _) ?_; (conv => whnf))
      | rw [hwk (k := k) (by omega) (by omega)]
      | rw [hw2]
      | (refine ifP_no (neI _) ?_; (conv => whnf))
      | (refine ifP_no (neB _) ?_; (conv => whnf))
      | (refine ifP_no (neS _) ?_; (conv => whnf))
      | (refine ifP_no (decide_eq_false (by omega)) ?_; (conv => whnf)))
    exact fin
theorem markStringS_ok (l : List ByteArray) (k : Int) (h0 : 0 ≤ k) (hb : k + ((l.length : Nat) : Int) ≤ 4611686018427387904) : Fn Tryz.prog [] 75 [.hdr 0 [], .sc (.int .i64 k)] [⟨strC l, true, 1, false⟩] (ret [.sc (.int .i64 (k + ((l.length : Nat) : Int)))] [⟨strC (strM l k), true, 1, false⟩]) := by
  have hl : l.length ≤ 4611686018427387904 := by omega
  generalize hF : strM l k = F
  generalize hK : k + ((l.length : Nat) : Int) = K at *
  refine fn_of Tryz.func75 (by kernel_rfl) ?_
  conv => whnf
  refine loop_of (A := List ByteArray × List ByteArray × Int) (eM 1 20 strC) (fun x => x.2.1.length) (fun x => x.1 ++ strM x.2.1 x.2.2 = F ∧ x.2.2 + ((x.2.1.length : Nat) : Int) = K ∧ 0 ≤ x.2.2 ∧ x.1.length + x.2.1.length ≤ 4611686018427387904) ([], l, k) rfl ⟨hF, hK, h0, by simpa using hl⟩ ?_
  clear hF hK h0 hl
  intro ⟨d, r, k⟩ ⟨h1, h2, h3, h4⟩ X ih
  dsimp only at h1 h2 h3 h4
  cases r with
  | nil =>
    have h6 : d = F := by rw [← h1]; simp [strM]
    rw [eM_eq, show strC [] = [] from rfl, List.append_nil]
    subst h6
    generalize strC d = D at *
    conv => whnf
    refine ifP_of (fun c1 => ?_) (fun c1 => ?_)
    · have := of_decide_eq_true c1; omega
    · conv => whnf
      exact ⟨il' (by rw [← h2]; simp), rfl⟩
  | cons a r =>
    rw [show List.length (a :: r) = r.length + 1 from by rfl] at h2
    rw [List.length_cons] at h4
    have fin := ih (d ++ [(txtM k)], r, k + 1) ⟨by dsimp only; rw [← h1, strM, List.append_assoc]; rfl, by dsimp only; omega, by dsimp only; omega, by dsimp only; rw [List.length_append, List.length_singleton]; omega⟩ (by dsimp only; rw [List.length_cons]; omega)
    rw [eM_eq, ← strC_app] at fin
    rw [show ((strC (d ++ [(txtM k)])).length : Nat) = (strC d).length + 1 by rw [strC_len, strC_len, List.length_append]; rfl] at fin
    rw [eM_eq]
    have hlen : (strC d).length = d.length := strC_len _
    have hw2 := hwn (n := (strC d).length) (by omega)
    clear ih h1
    generalize strC d = D at *
    rw [show strC (a :: r) = [.sc (.string a)] :: strC r from rfl]
    generalize strC r = R at *
    conv => whnf
    refine ifP_yes lenl ?_
    conv => whnf
    repeat' (first
      | (refine optP_of (gset _) ?_; (conv => whnf))
      | (refine Fn.use (markText_ok k (by omega) (by omega)) ?_; (conv => whnf); (first | refine ⟨trivial, ?_⟩ | refine ⟨⟨rfl, clr_of rfl⟩, ?_⟩); (conv => whnf))
      | rw [pset]
      | rw [hwk (k := k) (by omega) (by omega)]
      | rw [hw2])
    exact fin
theorem heldStringS_ok (l : List ByteArray) (k : Int) (h0 : 0 ≤ k) (hb : k + ((l.length : Nat) : Int) ≤ 4611686018427387904) : Fn Tryz.prog [] 77 [.sh 1 (strC (strM l k)), .sc (.int .i64 k)] [] (ret [.sc (.int .i64 (k + ((l.length : Nat) : Int)))] []) := by
  have hl : l.length ≤ 4611686018427387904 := by omega
  generalize hK : k + ((l.length : Nat) : Int) = K at *
  refine fn_of Tryz.func77 (by kernel_rfl) ?_
  conv => whnf
  refine loop_of (A := List (List V) × List ByteArray × Int) (eK 1 22 (fun r k => strC (strM r k))) (fun x => x.2.1.length) (fun x => x.2.2 + ((x.2.1.length : Nat) : Int) = K ∧ 0 ≤ x.2.2 ∧ x.1.length + x.2.1.length ≤ 4611686018427387904) ([], l, k) rfl ⟨hK, h0, by simpa using hl⟩ ?_
  clear hK h0 hl
  intro ⟨D, r, k⟩ ⟨h2, h3, h4⟩ X ih
  dsimp only at h2 h3 h4
  cases r with
  | nil =>
    rw [eK_eq, show strC (strM [] k) = [] from by rw [strM]; rfl, List.append_nil]
    conv => whnf
    refine ifP_of (fun c1 => ?_) (fun c1 => ?_)
    · have := of_decide_eq_true c1; omega
    · conv => whnf
      exact ⟨il' (by rw [← h2]; simp), rfl⟩
  | cons a r =>
    rw [show List.length (a :: r) = r.length + 1 from by rfl] at h2
    rw [List.length_cons] at h4
    have fin := ih (D ++ [[.sc (.string (txtM k))]], r, k + 1) ⟨by dsimp only; omega, by dsimp only; omega, by dsimp only; rw [List.length_append, List.length_singleton]; omega⟩ (by dsimp only; rw [List.length_cons]; omega)
    rw [eK_eq, List.append_assoc, List.length_append, List.length_singleton] at fin
    rw [eK_eq, show strC (strM (a :: r) k) = [.sc (.string (txtM k))] :: strC (strM r (k + 1)) from by rw [strM, strC_cons]]
    have fin : X ⟨[(0, .sh 1 (D ++ [.sc (.string (txtM k))] :: strC (strM r (k + 1)))), (1, .sc (.int .i64 (k + 1))), (5, .sc (.int .i64 ((D.length + 1 : Nat) : Int)))], [], 0, 22, 0⟩ := fin
    have hw2 := hwn (n := D.length) (by omega)
    clear ih
    generalize strC (strM r (k + 1)) = R at *
    conv => whnf
    refine ifP_yes lenl ?_
    conv => whnf
    repeat' (first
      | (refine optP_of (gset _) ?_; (conv => whnf))
      | (refine Fn.use (markText_ok k (by omega) (by omega)) ?_; (conv => whnf); (first | refine ⟨trivial, ?_⟩ | refine ⟨⟨rfl, clr_of rfl⟩, ?_⟩); (conv => whnf))
      | rw [hwk (k := k) (by omega) (by omega)]
      | rw [hw2]
      | (refine ifP_no (neI _) ?_; (conv => whnf))
      | (refine ifP_no (neB _) ?_; (conv => whnf))
      | (refine ifP_no (neS _) ?_; (conv => whnf))
      | (refine ifP_no (decide_eq_false (by omega)) ?_; (conv => whnf)))
    exact fin
mutual
def Opr.cn : Opr → Nat
  | ⟨num, kind, ref, rep, oneof, tag, quick, run, inl⟩ => 1 + 1 + 1 + 1 + 1 + tag.length + 1 + 1 + Opr.cns inl
def Opr.cns : List Opr → Nat
  | [] => 0
  | a :: l => a.cn + Opr.cns l
end
mutual
def Opr.mk' : Opr → Int → Opr
  | ⟨num, kind, ref, rep, oneof, tag, quick, run, inl⟩, k => ⟨k, k + 1, k + 1 + 1, ((k + 1 + 1 + 1).tmod 3 == 0), k + 1 + 1 + 1 + 1, byteM tag (k + 1 + 1 + 1 + 1 + 1), ((k + 1 + 1 + 1 + 1 + 1 + ((tag.length : Nat) : Int)).tmod 3 == 0), k + 1 + 1 + 1 + 1 + 1 + ((tag.length : Nat) : Int) + 1, Opr.mks inl (k + 1 + 1 + 1 + 1 + 1 + ((tag.length : Nat) : Int) + 1 + 1)⟩
def Opr.mks : List Opr → Int → List Opr
  | [], _ => []
  | a :: l, k => a.mk' k :: Opr.mks l (k + ((a.cn : Nat) : Int))
end
theorem Opr.cns_ge : ∀ (l : List Opr), l.length ≤ Opr.cns l
  | [] => Nat.zero_le _
  | ⟨num, kind, ref, rep, oneof, tag, quick, run, inl⟩ :: l => by
    have := Opr.cns_ge l
    rw [List.length_cons, Opr.cns, Opr.cn]; omega
theorem Opr.mks_len : ∀ (l : List Opr) (k : Int), (Opr.mks l k).length = l.length
  | [], _ => by rw [Opr.mks]
  | a :: l, k => by rw [Opr.mks, List.length_cons, List.length_cons, Opr.mks_len l]
theorem Opr.css_cons (a : Opr) (l : List Opr) : Opr.css (a :: l) = a.cells :: Opr.css l := by rw [Opr.css, Opr.cs_eq]
theorem Opr.css_app (d : List Opr) (a : Opr) (R : List (List V)) : Opr.css d ++ a.cells :: R = Opr.css (d ++ [a]) ++ R := by
  induction d with
  | nil => rw [Opr.css, List.nil_append, List.nil_append, Opr.css, Opr.cs_eq, Opr.css]; rfl
  | cons b d ih => rw [Opr.css, List.cons_append, List.cons_append, Opr.css, ih]; rfl
def Modu.cn : Modu → Nat
  | ⟨ops, jumps, cached⟩ => Opr.cns ops + jumps.length + 1
def Modu.cns : List Modu → Nat
  | [] => 0
  | a :: l => a.cn + Modu.cns l
def Modu.mk' : Modu → Int → Modu
  | ⟨ops, jumps, cached⟩, k => ⟨Opr.mks ops (k), intM jumps (k + ((Opr.cns ops : Nat) : Int)), ((k + ((Opr.cns ops : Nat) : Int) + ((jumps.length : Nat) : Int)).tmod 3 == 0)⟩
def Modu.mks : List Modu → Int → List Modu
  | [], _ => []
  | a :: l, k => a.mk' k :: Modu.mks l (k + ((a.cn : Nat) : Int))
theorem Modu.cns_ge : ∀ (l : List Modu), l.length ≤ Modu.cns l
  | [] => Nat.zero_le _
  | ⟨ops, jumps, cached⟩ :: l => by
    have := Modu.cns_ge l
    rw [List.length_cons, Modu.cns, Modu.cn]; omega
theorem Modu.mks_len : ∀ (l : List Modu) (k : Int), (Modu.mks l k).length = l.length
  | [], _ => by rw [Modu.mks]
  | a :: l, k => by rw [Modu.mks, List.length_cons, List.length_cons, Modu.mks_len l]
theorem Modu.css_cons (a : Modu) (l : List Modu) : Modu.css (a :: l) = a.cells :: Modu.css l := by rw [Modu.css, Modu.cs_eq]
theorem Modu.css_app (d : List Modu) (a : Modu) (R : List (List V)) : Modu.css d ++ a.cells :: R = Modu.css (d ++ [a]) ++ R := by
  induction d with
  | nil => rw [Modu.css, List.nil_append, List.nil_append, Modu.css, Modu.cs_eq, Modu.css]; rfl
  | cons b d ih => rw [Modu.css, List.cons_append, List.cons_append, Modu.css, ih]; rfl
def FieldDesc.cn : FieldDesc → Nat
  | ⟨name, num, kind, ref, rep, oneof⟩ => 1 + 1 + 1 + 1 + 1 + 1
def FieldDesc.cns : List FieldDesc → Nat
  | [] => 0
  | a :: l => a.cn + FieldDesc.cns l
def FieldDesc.mk' : FieldDesc → Int → FieldDesc
  | ⟨name, num, kind, ref, rep, oneof⟩, k => ⟨txtM (k), k + 1, k + 1 + 1, k + 1 + 1 + 1, ((k + 1 + 1 + 1 + 1).tmod 3 == 0), k + 1 + 1 + 1 + 1 + 1⟩
def FieldDesc.mks : List FieldDesc → Int → List FieldDesc
  | [], _ => []
  | a :: l, k => a.mk' k :: FieldDesc.mks l (k + ((a.cn : Nat) : Int))
theorem FieldDesc.cns_ge : ∀ (l : List FieldDesc), l.length ≤ FieldDesc.cns l
  | [] => Nat.zero_le _
  | ⟨name, num, kind, ref, rep, oneof⟩ :: l => by
    have := FieldDesc.cns_ge l
    rw [List.length_cons, FieldDesc.cns, FieldDesc.cn]; omega
theorem FieldDesc.mks_len : ∀ (l : List FieldDesc) (k : Int), (FieldDesc.mks l k).length = l.length
  | [], _ => by rw [FieldDesc.mks]
  | a :: l, k => by rw [FieldDesc.mks, List.length_cons, List.length_cons, FieldDesc.mks_len l]
theorem FieldDesc.css_cons (a : FieldDesc) (l : List FieldDesc) : FieldDesc.css (a :: l) = a.cells :: FieldDesc.css l := by rw [FieldDesc.css, FieldDesc.cs_eq]
theorem FieldDesc.css_app (d : List FieldDesc) (a : FieldDesc) (R : List (List V)) : FieldDesc.css d ++ a.cells :: R = FieldDesc.css (d ++ [a]) ++ R := by
  induction d with
  | nil => rw [FieldDesc.css, List.nil_append, List.nil_append, FieldDesc.css, FieldDesc.cs_eq, FieldDesc.css]; rfl
  | cons b d ih => rw [FieldDesc.css, List.cons_append, List.cons_append, FieldDesc.css, ih]; rfl
def Desc.cn : Desc → Nat
  | ⟨name, fields, oneofs⟩ => 1 + FieldDesc.cns fields + oneofs.length
def Desc.cns : List Desc → Nat
  | [] => 0
  | a :: l => a.cn + Desc.cns l
def Desc.mk' : Desc → Int → Desc
  | ⟨name, fields, oneofs⟩, k => ⟨txtM (k), FieldDesc.mks fields (k + 1), strM oneofs (k + 1 + ((FieldDesc.cns fields : Nat) : Int))⟩
def Desc.mks : List Desc → Int → List Desc
  | [], _ => []
  | a :: l, k => a.mk' k :: Desc.mks l (k + ((a.cn : Nat) : Int))
theorem Desc.cns_ge : ∀ (l : List Desc), l.length ≤ Desc.cns l
  | [] => Nat.zero_le _
  | ⟨name, fields, oneofs⟩ :: l => by
    have := Desc.cns_ge l
    rw [List.length_cons, Desc.cns, Desc.cn]; omega
theorem Desc.mks_len : ∀ (l : List Desc) (k : Int), (Desc.mks l k).length = l.length
  | [], _ => by rw [Desc.mks]
  | a :: l, k => by rw [Desc.mks, List.length_cons, List.length_cons, Desc.mks_len l]
theorem Desc.css_cons (a : Desc) (l : List Desc) : Desc.css (a :: l) = a.cells :: Desc.css l := by rw [Desc.css, Desc.cs_eq]
theorem Desc.css_app (d : List Desc) (a : Desc) (R : List (List V)) : Desc.css d ++ a.cells :: R = Desc.css (d ++ [a]) ++ R := by
  induction d with
  | nil => rw [Desc.css, List.nil_append, List.nil_append, Desc.css, Desc.cs_eq, Desc.css]; rfl
  | cons b d ih => rw [Desc.css, List.cons_append, List.cons_append, Desc.css, ih]; rfl
def EnumDesc.cn : EnumDesc → Nat
  | ⟨name, names, nums⟩ => 1 + names.length + nums.length
def EnumDesc.cns : List EnumDesc → Nat
  | [] => 0
  | a :: l => a.cn + EnumDesc.cns l
def EnumDesc.mk' : EnumDesc → Int → EnumDesc
  | ⟨name, names, nums⟩, k => ⟨txtM (k), strM names (k + 1), intM nums (k + 1 + ((names.length : Nat) : Int))⟩
def EnumDesc.mks : List EnumDesc → Int → List EnumDesc
  | [], _ => []
  | a :: l, k => a.mk' k :: EnumDesc.mks l (k + ((a.cn : Nat) : Int))
theorem EnumDesc.cns_ge : ∀ (l : List EnumDesc), l.length ≤ EnumDesc.cns l
  | [] => Nat.zero_le _
  | ⟨name, names, nums⟩ :: l => by
    have := EnumDesc.cns_ge l
    rw [List.length_cons, EnumDesc.cns, EnumDesc.cn]; omega
theorem EnumDesc.mks_len : ∀ (l : List EnumDesc) (k : Int), (EnumDesc.mks l k).length = l.length
  | [], _ => by rw [EnumDesc.mks]
  | a :: l, k => by rw [EnumDesc.mks, List.length_cons, List.length_cons, EnumDesc.mks_len l]
theorem EnumDesc.css_cons (a : EnumDesc) (l : List EnumDesc) : EnumDesc.css (a :: l) = a.cells :: EnumDesc.css l := by rw [EnumDesc.css, EnumDesc.cs_eq]
theorem EnumDesc.css_app (d : List EnumDesc) (a : EnumDesc) (R : List (List V)) : EnumDesc.css d ++ a.cells :: R = EnumDesc.css (d ++ [a]) ++ R := by
  induction d with
  | nil => rw [EnumDesc.css, List.nil_append, List.nil_append, EnumDesc.css, EnumDesc.cs_eq, EnumDesc.css]; rfl
  | cons b d ih => rw [EnumDesc.css, List.cons_append, List.cons_append, EnumDesc.css, ih]; rfl
theorem markOprS_ok (l : List Opr) (k : Int) (h0 : 0 ≤ k) (hb : k + ((Opr.cns l : Nat) : Int) ≤ 4611686018427387904) (IH : ∀ a ∈ l, ∀ k : Int, 0 ≤ k → k + ((Opr.cns a.inl : Nat) : Int) ≤ 4611686018427387904 → Fn Tryz.prog [] 72 [.hdr 0 [], .sc (.int .i64 k)] [⟨Opr.css a.inl, true, 9, false⟩] (ret [.sc (.int .i64 (k + ((Opr.cns a.inl : Nat) : Int)))] [⟨Opr.css (Opr.mks a.inl k), true, 9, false⟩])) : Fn Tryz.prog [] 72 [.hdr 0 [], .sc (.int .i64 k)] [⟨Opr.css l, true, 9, false⟩] (ret [.sc (.int .i64 (k + ((Opr.cns l : Nat) : Int)))] [⟨Opr.css (Opr.mks l k), true, 9, false⟩]) := by
  have hl : l.length ≤ 4611686018427387904 := by have := Opr.cns_ge l; omega
  generalize hF : Opr.mks l k = F
  generalize hK : k + ((Opr.cns l : Nat) : Int) = K at *
  refine fn_of Tryz.func72 (by kernel_rfl) ?_
  conv => whnf
  refine loop_of (A := List Opr × List Opr × Int) (eM 9 80 Opr.css) (fun x => x.2.1.length) (fun x => x.1 ++ Opr.mks x.2.1 x.2.2 = F ∧ x.2.2 + ((Opr.cns x.2.1 : Nat) : Int) = K ∧ 0 ≤ x.2.2 ∧ x.1.length + x.2.1.length ≤ 4611686018427387904 ∧ ∀ y ∈ x.2.1, y ∈ l) ([], l, k) rfl ⟨hF, hK, h0, by simpa using hl, fun y hy => hy⟩ ?_
  clear hF hK h0 hl
  intro ⟨d, r, k⟩ ⟨h1, h2, h3, h4, h5⟩ X ih
  dsimp only at h1 h2 h3 h4 h5
  cases r with
  | nil =>
    have h6 : d = F := by rw [← h1]; simp [Opr.mks]
    rw [eM_eq, show Opr.css [] = [] from rfl, List.append_nil]
    subst h6
    generalize Opr.css d = D at *
    conv => whnf
    refine ifP_of (fun c1 => ?_) (fun c1 => ?_)
    · have := of_decide_eq_true c1; omega
    · conv => whnf
      exact ⟨il' (by rw [← h2]; simp [Opr.cns]), rfl⟩
  | cons a r =>
    rw [show Opr.cns (a :: r) = a.cn + Opr.cns r from by rw [Opr.cns]] at h2
    rw [List.length_cons] at h4
    have fin := ih (d ++ [(a.mk' k)], r, k + ((a.cn : Nat) : Int)) ⟨by dsimp only; rw [← h1, Opr.mks, List.append_assoc]; rfl, by dsimp only; omega, by dsimp only; omega, by dsimp only; rw [List.length_append, List.length_singleton]; omega, fun y hy => h5 y (List.mem_cons_of_mem _ hy)⟩ (by dsimp only; rw [List.length_cons]; omega)
    rw [eM_eq, ← Opr.css_app] at fin
    rw [show ((Opr.css (d ++ [(a.mk' k)])).length : Nat) = (Opr.css d).length + 1 by rw [Opr.css_len, Opr.css_len, List.length_append]; rfl] at fin
    rw [eM_eq]
    have hlen : (Opr.css d).length = d.length := Opr.css_len _
    have hw2 := hwn (n := (Opr.css d).length) (by omega)
    clear ih h1
    obtain ⟨num, kind, ref, rep, oneof, tag, quick, run, inl⟩ := a
    have hcn : Opr.cn ⟨num, kind, ref, rep, oneof, tag, quick, run, inl⟩ = 1 + 1 + 1 + 1 + 1 + tag.length + 1 + 1 + Opr.cns inl := by rw [Opr.cn]
    rw [hcn] at h2
    rw [show k + ((Opr.cn ⟨num, kind, ref, rep, oneof, tag, quick, run, inl⟩ : Nat) : Int) = k + 1 + 1 + 1 + 1 + 1 + ((tag.length : Nat) : Int) + 1 + 1 + ((Opr.cns inl : Nat) : Int) from by rw [hcn]; omega, show Opr.mk' ⟨num, kind, ref, rep, oneof, tag, quick, run, inl⟩ k = ⟨k, k + 1, k + 1 + 1, ((k + 1 + 1 + 1).tmod 3 == 0), k + 1 + 1 + 1 + 1, byteM tag (k + 1 + 1 + 1 + 1 + 1), ((k + 1 + 1 + 1 + 1 + 1 + ((tag.length : Nat) : Int)).tmod 3 == 0), k + 1 + 1 + 1 + 1 + 1 + ((tag.length : Nat) : Int) + 1, Opr.mks inl (k + 1 + 1 + 1 + 1 + 1 + ((tag.length : Nat) : Int) + 1 + 1)⟩ from by rw [Opr.mk']] at fin
    have IHa := IH _ (h5 _ (List.mem_cons_self ..))
    dsimp only at IHa
    generalize Opr.css d = D at *
    rw [show Opr.css (⟨num, kind, ref, rep, oneof, tag, quick, run, inl⟩ :: r) = Opr.cells ⟨num, kind, ref, rep, oneof, tag, quick, run, inl⟩ :: Opr.css r from Opr.css_cons ..]
    generalize Opr.css r = R at *
    conv => whnf
    refine ifP_yes lenl ?_
    conv => whnf
    repeat' (first
      | (refine optP_of (gset _) ?_; (conv => whnf))
      | (refine Fn.use (markByteS_ok tag (k + 1 + 1 + 1 + 1 + 1) (by omega) (by omega)) ?_; (conv => whnf); (first | refine ⟨trivial, ?_⟩ | refine ⟨⟨rfl, clr_of rfl⟩, ?_⟩); (conv => whnf))
      | (refine Fn.use (IHa (k + 1 + 1 + 1 + 1 + 1 + ((tag.length : Nat) : Int) + 1 + 1) (by omega) (by omega)) ?_; (conv => whnf); (first | refine ⟨trivial, ?_⟩ | refine ⟨⟨rfl, clr_of rfl⟩, ?_⟩); (conv => whnf))
      | rw [pset]
      | rw [hwk (k := k) (by omega) (by omega)]
      | rw [hwk (k := k + 1) (by omega) (by omega)]
      | rw [hwk (k := k + 1 + 1) (by omega) (by omega)]
      | rw [hwk (k := k + 1 + 1 + 1) (by omega) (by omega)]
      | rw [hwk (k := k + 1 + 1 + 1 + 1) (by omega) (by omega)]
      | rw [hwk (k := k + 1 + 1 + 1 + 1 + 1 + ((tag.length : Nat) : Int)) (by omega) (by omega)]
      | rw [hwk (k := k + 1 + 1 + 1 + 1 + 1 + ((tag.length : Nat) : Int) + 1) (by omega) (by omega)]
      | rw [hw2])
    exact fin
theorem markOprS_rec : ∀ (n : Nat) (l : List Opr), sizeOf l < n → ∀ k : Int, 0 ≤ k → k + ((Opr.cns l : Nat) : Int) ≤ 4611686018427387904 → Fn Tryz.prog [] 72 [.hdr 0 [], .sc (.int .i64 k)] [⟨Opr.css l, true, 9, false⟩] (ret [.sc (.int .i64 (k + ((Opr.cns l : Nat) : Int)))] [⟨Opr.css (Opr.mks l k), true, 9, false⟩])
  | 0, l, hn, _, _, _ => by omega
  | n + 1, l, hn, k, h0, h1 => markOprS_ok l k h0 h1 (fun a ha k h0 h1 => markOprS_rec n a.inl (by
      have h2 := List.sizeOf_lt_of_mem ha
      obtain ⟨num, kind, ref, rep, oneof, tag, quick, run, inl⟩ := a
      simp at h2
      dsimp only
      omega) k h0 h1)
theorem markOprS_all (l : List Opr) (k : Int) (h0 : 0 ≤ k) (h1 : k + ((Opr.cns l : Nat) : Int) ≤ 4611686018427387904) : Fn Tryz.prog [] 72 [.hdr 0 [], .sc (.int .i64 k)] [⟨Opr.css l, true, 9, false⟩] (ret [.sc (.int .i64 (k + ((Opr.cns l : Nat) : Int)))] [⟨Opr.css (Opr.mks l k), true, 9, false⟩]) := markOprS_rec _ l (Nat.lt_succ_self _) k h0 h1
theorem markModuS_ok (l : List Modu) (k : Int) (h0 : 0 ≤ k) (hb : k + ((Modu.cns l : Nat) : Int) ≤ 4611686018427387904) : Fn Tryz.prog [] 39 [.hdr 0 [], .sc (.int .i64 k)] [⟨Modu.css l, true, 3, false⟩] (ret [.sc (.int .i64 (k + ((Modu.cns l : Nat) : Int)))] [⟨Modu.css (Modu.mks l k), true, 3, false⟩]) := by
  have hl : l.length ≤ 4611686018427387904 := by have := Modu.cns_ge l; omega
  generalize hF : Modu.mks l k = F
  generalize hK : k + ((Modu.cns l : Nat) : Int) = K at *
  refine fn_of Tryz.func39 (by kernel_rfl) ?_
  conv => whnf
  refine loop_of (A := List Modu × List Modu × Int) (eM 3 36 Modu.css) (fun x => x.2.1.length) (fun x => x.1 ++ Modu.mks x.2.1 x.2.2 = F ∧ x.2.2 + ((Modu.cns x.2.1 : Nat) : Int) = K ∧ 0 ≤ x.2.2 ∧ x.1.length + x.2.1.length ≤ 4611686018427387904) ([], l, k) rfl ⟨hF, hK, h0, by simpa using hl⟩ ?_
  clear hF hK h0 hl
  intro ⟨d, r, k⟩ ⟨h1, h2, h3, h4⟩ X ih
  dsimp only at h1 h2 h3 h4
  cases r with
  | nil =>
    have h6 : d = F := by rw [← h1]; simp [Modu.mks]
    rw [eM_eq, show Modu.css [] = [] from rfl, List.append_nil]
    subst h6
    generalize Modu.css d = D at *
    conv => whnf
    refine ifP_of (fun c1 => ?_) (fun c1 => ?_)
    · have := of_decide_eq_true c1; omega
    · conv => whnf
      exact ⟨il' (by rw [← h2]; simp [Modu.cns]), rfl⟩
  | cons a r =>
    rw [show Modu.cns (a :: r) = a.cn + Modu.cns r from by rw [Modu.cns]] at h2
    rw [List.length_cons] at h4
    have fin := ih (d ++ [(a.mk' k)], r, k + ((a.cn : Nat) : Int)) ⟨by dsimp only; rw [← h1, Modu.mks, List.append_assoc]; rfl, by dsimp only; omega, by dsimp only; omega, by dsimp only; rw [List.length_append, List.length_singleton]; omega⟩ (by dsimp only; rw [List.length_cons]; omega)
    rw [eM_eq, ← Modu.css_app] at fin
    rw [show ((Modu.css (d ++ [(a.mk' k)])).length : Nat) = (Modu.css d).length + 1 by rw [Modu.css_len, Modu.css_len, List.length_append]; rfl] at fin
    rw [eM_eq]
    have hlen : (Modu.css d).length = d.length := Modu.css_len _
    have hw2 := hwn (n := (Modu.css d).length) (by omega)
    clear ih h1
    obtain ⟨ops, jumps, cached⟩ := a
    have hcn : Modu.cn ⟨ops, jumps, cached⟩ = Opr.cns ops + jumps.length + 1 := by rw [Modu.cn]
    rw [hcn] at h2
    rw [show k + ((Modu.cn ⟨ops, jumps, cached⟩ : Nat) : Int) = k + ((Opr.cns ops : Nat) : Int) + ((jumps.length : Nat) : Int) + 1 from by rw [hcn]; omega, show Modu.mk' ⟨ops, jumps, cached⟩ k = ⟨Opr.mks ops (k), intM jumps (k + ((Opr.cns ops : Nat) : Int)), ((k + ((Opr.cns ops : Nat) : Int) + ((jumps.length : Nat) : Int)).tmod 3 == 0)⟩ from by rw [Modu.mk']] at fin
    generalize Modu.css d = D at *
    rw [show Modu.css (⟨ops, jumps, cached⟩ :: r) = Modu.cells ⟨ops, jumps, cached⟩ :: Modu.css r from Modu.css_cons ..]
    generalize Modu.css r = R at *
    conv => whnf
    refine ifP_yes lenl ?_
    conv => whnf
    repeat' (first
      | (refine optP_of (gset _) ?_; (conv => whnf))
      | (refine Fn.use (markOprS_all ops (k) (by omega) (by omega)) ?_; (conv => whnf); (first | refine ⟨trivial, ?_⟩ | refine ⟨⟨rfl, clr_of rfl⟩, ?_⟩); (conv => whnf))
      | (refine Fn.use (markIntS_ok jumps (k + ((Opr.cns ops : Nat) : Int)) (by omega) (by omega)) ?_; (conv => whnf); (first | refine ⟨trivial, ?_⟩ | refine ⟨⟨rfl, clr_of rfl⟩, ?_⟩); (conv => whnf))
      | rw [pset]
      | rw [hwk (k := k + ((Opr.cns ops : Nat) : Int) + ((jumps.length : Nat) : Int)) (by omega) (by omega)]
      | rw [hw2])
    exact fin
theorem markFieldDescS_ok (l : List FieldDesc) (k : Int) (h0 : 0 ≤ k) (hb : k + ((FieldDesc.cns l : Nat) : Int) ≤ 4611686018427387904) : Fn Tryz.prog [] 74 [.hdr 0 [], .sc (.int .i64 k)] [⟨FieldDesc.css l, true, 6, false⟩] (ret [.sc (.int .i64 (k + ((FieldDesc.cns l : Nat) : Int)))] [⟨FieldDesc.css (FieldDesc.mks l k), true, 6, false⟩]) := by
  have hl : l.length ≤ 4611686018427387904 := by have := FieldDesc.cns_ge l; omega
  generalize hF : FieldDesc.mks l k = F
  generalize hK : k + ((FieldDesc.cns l : Nat) : Int) = K at *
  refine fn_of Tryz.func74 (by kernel_rfl) ?_
  conv => whnf
  refine loop_of (A := List FieldDesc × List FieldDesc × Int) (eM 6 58 FieldDesc.css) (fun x => x.2.1.length) (fun x => x.1 ++ FieldDesc.mks x.2.1 x.2.2 = F ∧ x.2.2 + ((FieldDesc.cns x.2.1 : Nat) : Int) = K ∧ 0 ≤ x.2.2 ∧ x.1.length + x.2.1.length ≤ 4611686018427387904) ([], l, k) rfl ⟨hF, hK, h0, by simpa using hl⟩ ?_
  clear hF hK h0 hl
  intro ⟨d, r, k⟩ ⟨h1, h2, h3, h4⟩ X ih
  dsimp only at h1 h2 h3 h4
  cases r with
  | nil =>
    have h6 : d = F := by rw [← h1]; simp [FieldDesc.mks]
    rw [eM_eq, show FieldDesc.css [] = [] from rfl, List.append_nil]
    subst h6
    generalize FieldDesc.css d = D at *
    conv => whnf
    refine ifP_of (fun c1 => ?_) (fun c1 => ?_)
    · have := of_decide_eq_true c1; omega
    · conv => whnf
      exact ⟨il' (by rw [← h2]; simp [FieldDesc.cns]), rfl⟩
  | cons a r =>
    rw [show FieldDesc.cns (a :: r) = a.cn + FieldDesc.cns r from by rw [FieldDesc.cns]] at h2
    rw [List.length_cons] at h4
    have fin := ih (d ++ [(a.mk' k)], r, k + ((a.cn : Nat) : Int)) ⟨by dsimp only; rw [← h1, FieldDesc.mks, List.append_assoc]; rfl, by dsimp only; omega, by dsimp only; omega, by dsimp only; rw [List.length_append, List.length_singleton]; omega⟩ (by dsimp only; rw [List.length_cons]; omega)
    rw [eM_eq, ← FieldDesc.css_app] at fin
    rw [show ((FieldDesc.css (d ++ [(a.mk' k)])).length : Nat) = (FieldDesc.css d).length + 1 by rw [FieldDesc.css_len, FieldDesc.css_len, List.length_append]; rfl] at fin
    rw [eM_eq]
    have hlen : (FieldDesc.css d).length = d.length := FieldDesc.css_len _
    have hw2 := hwn (n := (FieldDesc.css d).length) (by omega)
    clear ih h1
    obtain ⟨name, num, kind, ref, rep, oneof⟩ := a
    have hcn : FieldDesc.cn ⟨name, num, kind, ref, rep, oneof⟩ = 1 + 1 + 1 + 1 + 1 + 1 := by rw [FieldDesc.cn]
    rw [hcn] at h2
    rw [show k + ((FieldDesc.cn ⟨name, num, kind, ref, rep, oneof⟩ : Nat) : Int) = k + 1 + 1 + 1 + 1 + 1 + 1 from by rw [hcn]; omega, show FieldDesc.mk' ⟨name, num, kind, ref, rep, oneof⟩ k = ⟨txtM (k), k + 1, k + 1 + 1, k + 1 + 1 + 1, ((k + 1 + 1 + 1 + 1).tmod 3 == 0), k + 1 + 1 + 1 + 1 + 1⟩ from by rw [FieldDesc.mk']] at fin
    generalize FieldDesc.css d = D at *
    rw [show FieldDesc.css (⟨name, num, kind, ref, rep, oneof⟩ :: r) = FieldDesc.cells ⟨name, num, kind, ref, rep, oneof⟩ :: FieldDesc.css r from FieldDesc.css_cons ..]
    generalize FieldDesc.css r = R at *
    conv => whnf
    refine ifP_yes lenl ?_
    conv => whnf
    repeat' (first
      | (refine optP_of (gset _) ?_; (conv => whnf))
      | (refine Fn.use (markText_ok (k) (by omega) (by omega)) ?_; (conv => whnf); (first | refine ⟨trivial, ?_⟩ | refine ⟨⟨rfl, clr_of rfl⟩, ?_⟩); (conv => whnf))
      | rw [pset]
      | rw [hwk (k := k) (by omega) (by omega)]
      | rw [hwk (k := k + 1) (by omega) (by omega)]
      | rw [hwk (k := k + 1 + 1) (by omega) (by omega)]
      | rw [hwk (k := k + 1 + 1 + 1) (by omega) (by omega)]
      | rw [hwk (k := k + 1 + 1 + 1 + 1) (by omega) (by omega)]
      | rw [hwk (k := k + 1 + 1 + 1 + 1 + 1) (by omega) (by omega)]
      | rw [hw2])
    exact fin
theorem heldFieldDescS_ok (l : List FieldDesc) (k : Int) (h0 : 0 ≤ k) (hb : k + ((FieldDesc.cns l : Nat) : Int) ≤ 4611686018427387904) : Fn Tryz.prog [] 76 [.sh 6 (FieldDesc.css (FieldDesc.mks l k)), .sc (.int .i64 k)] [] (ret [.sc (.int .i64 (k + ((FieldDesc.cns l : Nat) : Int)))] []) := by
  have hl : l.length ≤ 4611686018427387904 := by have := FieldDesc.cns_ge l; omega
  generalize hK : k + ((FieldDesc.cns l : Nat) : Int) = K at *
  refine fn_of Tryz.func76 (by kernel_rfl) ?_
  conv => whnf
  refine loop_of (A := List (List V) × List FieldDesc × Int) (eK 6 70 (fun r k => FieldDesc.css (FieldDesc.mks r k))) (fun x => x.2.1.length) (fun x => x.2.2 + ((FieldDesc.cns x.2.1 : Nat) : Int) = K ∧ 0 ≤ x.2.2 ∧ x.1.length + x.2.1.length ≤ 4611686018427387904) ([], l, k) rfl ⟨hK, h0, by simpa using hl⟩ ?_
  clear hK h0 hl
  intro ⟨D, r, k⟩ ⟨h2, h3, h4⟩ X ih
  dsimp only at h2 h3 h4
  cases r with
  | nil =>
    rw [eK_eq, show FieldDesc.css (FieldDesc.mks [] k) = [] from by rw [FieldDesc.mks]; rfl, List.append_nil]
    conv => whnf
    refine ifP_of (fun c1 => ?_) (fun c1 => ?_)
    · have := of_decide_eq_true c1; omega
    · conv => whnf
      exact ⟨il' (by rw [← h2]; simp [FieldDesc.cns]), rfl⟩
  | cons a r =>
    rw [show FieldDesc.cns (a :: r) = a.cn + FieldDesc.cns r from by rw [FieldDesc.cns]] at h2
    rw [List.length_cons] at h4
    have fin := ih (D ++ [FieldDesc.cells (a.mk' k)], r, k + ((a.cn : Nat) : Int)) ⟨by dsimp only; omega, by dsimp only; omega, by dsimp only; rw [List.length_append, List.length_singleton]; omega⟩ (by dsimp only; rw [List.length_cons]; omega)
    rw [eK_eq, List.append_assoc, List.length_append, List.length_singleton] at fin
    rw [eK_eq, show FieldDesc.css (FieldDesc.mks (a :: r) k) = FieldDesc.cells (a.mk' k) :: FieldDesc.css (FieldDesc.mks r (k + ((a.cn : Nat) : Int))) from by rw [FieldDesc.mks, FieldDesc.css_cons]]
    have fin : X ⟨[(0, .sh 6 (D ++ FieldDesc.cells (a.mk' k) :: FieldDesc.css (FieldDesc.mks r (k + ((a.cn : Nat) : Int))))), (1, .sc (.int .i64 (k + ((a.cn : Nat) : Int)))), (5, .sc (.int .i64 ((D.length + 1 : Nat) : Int)))], [], 0, 70, 0⟩ := fin
    have hw2 := hwn (n := D.length) (by omega)
    clear ih
    obtain ⟨name, num, kind, ref, rep, oneof⟩ := a
    have hcn : FieldDesc.cn ⟨name, num, kind, ref, rep, oneof⟩ = 1 + 1 + 1 + 1 + 1 + 1 := by rw [FieldDesc.cn]
    rw [hcn] at h2
    rw [show k + ((FieldDesc.cn ⟨name, num, kind, ref, rep, oneof⟩ : Nat) : Int) = k + 1 + 1 + 1 + 1 + 1 + 1 from by rw [hcn]; omega, show FieldDesc.mk' ⟨name, num, kind, ref, rep, oneof⟩ k = ⟨txtM (k), k + 1, k + 1 + 1, k + 1 + 1 + 1, ((k + 1 + 1 + 1 + 1).tmod 3 == 0), k + 1 + 1 + 1 + 1 + 1⟩ from by rw [FieldDesc.mk']] at fin
    rw [show k + ((FieldDesc.cn ⟨name, num, kind, ref, rep, oneof⟩ : Nat) : Int) = k + 1 + 1 + 1 + 1 + 1 + 1 from by rw [hcn]; omega, show FieldDesc.mk' ⟨name, num, kind, ref, rep, oneof⟩ k = ⟨txtM (k), k + 1, k + 1 + 1, k + 1 + 1 + 1, ((k + 1 + 1 + 1 + 1).tmod 3 == 0), k + 1 + 1 + 1 + 1 + 1⟩ from by rw [FieldDesc.mk']]
    generalize FieldDesc.css (FieldDesc.mks r (k + 1 + 1 + 1 + 1 + 1 + 1)) = R at *
    conv => whnf
    refine ifP_yes lenl ?_
    conv => whnf
    repeat' (first
      | (refine optP_of (gset _) ?_; (conv => whnf))
      | (refine Fn.use (markText_ok (k) (by omega) (by omega)) ?_; (conv => whnf); (first | refine ⟨trivial, ?_⟩ | refine ⟨⟨rfl, clr_of rfl⟩, ?_⟩); (conv => whnf))
      | rw [hwk (k := k) (by omega) (by omega)]
      | rw [hwk (k := k + 1) (by omega) (by omega)]
      | rw [hwk (k := k + 1 + 1) (by omega) (by omega)]
      | rw [hwk (k := k + 1 + 1 + 1) (by omega) (by omega)]
      | rw [hwk (k := k + 1 + 1 + 1 + 1) (by omega) (by omega)]
      | rw [hwk (k := k + 1 + 1 + 1 + 1 + 1) (by omega) (by omega)]
      | rw [hw2]
      | (refine ifP_no (neI _) ?_; (conv => whnf))
      | (refine ifP_no (neB _) ?_; (conv => whnf))
      | (refine ifP_no (neS _) ?_; (conv => whnf))
      | (refine ifP_no (decide_eq_false (by omega)) ?_; (conv => whnf)))
    exact fin
theorem markDescS_ok (l : List Desc) (k : Int) (h0 : 0 ≤ k) (hb : k + ((Desc.cns l : Nat) : Int) ≤ 4611686018427387904) : Fn Tryz.prog [] 40 [.hdr 0 [], .sc (.int .i64 k)] [⟨Desc.css l, true, 3, false⟩] (ret [.sc (.int .i64 (k + ((Desc.cns l : Nat) : Int)))] [⟨Desc.css (Desc.mks l k), true, 3, false⟩]) := by
  have hl : l.length ≤ 4611686018427387904 := by have := Desc.cns_ge l; omega
  generalize hF : Desc.mks l k = F
  generalize hK : k + ((Desc.cns l : Nat) : Int) = K at *
  refine fn_of Tryz.func40 (by kernel_rfl) ?_
  conv => whnf
  refine loop_of (A := List Desc × List Desc × Int) (eM 3 35 Desc.css) (fun x => x.2.1.length) (fun x => x.1 ++ Desc.mks x.2.1 x.2.2 = F ∧ x.2.2 + ((Desc.cns x.2.1 : Nat) : Int) = K ∧ 0 ≤ x.2.2 ∧ x.1.length + x.2.1.length ≤ 4611686018427387904) ([], l, k) rfl ⟨hF, hK, h0, by simpa using hl⟩ ?_
  clear hF hK h0 hl
  intro ⟨d, r, k⟩ ⟨h1, h2, h3, h4⟩ X ih
  dsimp only at h1 h2 h3 h4
  cases r with
  | nil =>
    have h6 : d = F := by rw [← h1]; simp [Desc.mks]
    rw [eM_eq, show Desc.css [] = [] from rfl, List.append_nil]
    subst h6
    generalize Desc.css d = D at *
    conv => whnf
    refine ifP_of (fun c1 => ?_) (fun c1 => ?_)
    · have := of_decide_eq_true c1; omega
    · conv => whnf
      exact ⟨il' (by rw [← h2]; simp [Desc.cns]), rfl⟩
  | cons a r =>
    rw [show Desc.cns (a :: r) = a.cn + Desc.cns r from by rw [Desc.cns]] at h2
    rw [List.length_cons] at h4
    have fin := ih (d ++ [(a.mk' k)], r, k + ((a.cn : Nat) : Int)) ⟨by dsimp only; rw [← h1, Desc.mks, List.append_assoc]; rfl, by dsimp only; omega, by dsimp only; omega, by dsimp only; rw [List.length_append, List.length_singleton]; omega⟩ (by dsimp only; rw [List.length_cons]; omega)
    rw [eM_eq, ← Desc.css_app] at fin
    rw [show ((Desc.css (d ++ [(a.mk' k)])).length : Nat) = (Desc.css d).length + 1 by rw [Desc.css_len, Desc.css_len, List.length_append]; rfl] at fin
    rw [eM_eq]
    have hlen : (Desc.css d).length = d.length := Desc.css_len _
    have hw2 := hwn (n := (Desc.css d).length) (by omega)
    clear ih h1
    obtain ⟨name, fields, oneofs⟩ := a
    have hcn : Desc.cn ⟨name, fields, oneofs⟩ = 1 + FieldDesc.cns fields + oneofs.length := by rw [Desc.cn]
    rw [hcn] at h2
    rw [show k + ((Desc.cn ⟨name, fields, oneofs⟩ : Nat) : Int) = k + 1 + ((FieldDesc.cns fields : Nat) : Int) + ((oneofs.length : Nat) : Int) from by rw [hcn]; omega, show Desc.mk' ⟨name, fields, oneofs⟩ k = ⟨txtM (k), FieldDesc.mks fields (k + 1), strM oneofs (k + 1 + ((FieldDesc.cns fields : Nat) : Int))⟩ from by rw [Desc.mk']] at fin
    generalize Desc.css d = D at *
    rw [show Desc.css (⟨name, fields, oneofs⟩ :: r) = Desc.cells ⟨name, fields, oneofs⟩ :: Desc.css r from Desc.css_cons ..]
    generalize Desc.css r = R at *
    conv => whnf
    refine ifP_yes lenl ?_
    conv => whnf
    repeat' (first
      | (refine optP_of (gset _) ?_; (conv => whnf))
      | (refine Fn.use (markText_ok (k) (by omega) (by omega)) ?_; (conv => whnf); (first | refine ⟨trivial, ?_⟩ | refine ⟨⟨rfl, clr_of rfl⟩, ?_⟩); (conv => whnf))
      | (refine Fn.use (markFieldDescS_ok fields (k + 1) (by omega) (by omega)) ?_; (conv => whnf); (first | refine ⟨trivial, ?_⟩ | refine ⟨⟨rfl, clr_of rfl⟩, ?_⟩); (conv => whnf))
      | (refine Fn.use (markStringS_ok oneofs (k + 1 + ((FieldDesc.cns fields : Nat) : Int)) (by omega) (by omega)) ?_; (conv => whnf); (first | refine ⟨trivial, ?_⟩ | refine ⟨⟨rfl, clr_of rfl⟩, ?_⟩); (conv => whnf))
      | rw [pset]
      | rw [hwk (k := k) (by omega) (by omega)]
      | rw [hw2])
    exact fin
theorem heldDescS_ok (l : List Desc) (k : Int) (h0 : 0 ≤ k) (hb : k + ((Desc.cns l : Nat) : Int) ≤ 4611686018427387904) : Fn Tryz.prog [] 42 [.sh 3 (Desc.css (Desc.mks l k)), .sc (.int .i64 k)] [] (ret [.sc (.int .i64 (k + ((Desc.cns l : Nat) : Int)))] []) := by
  have hl : l.length ≤ 4611686018427387904 := by have := Desc.cns_ge l; omega
  generalize hK : k + ((Desc.cns l : Nat) : Int) = K at *
  refine fn_of Tryz.func42 (by kernel_rfl) ?_
  conv => whnf
  refine loop_of (A := List (List V) × List Desc × Int) (eK 3 41 (fun r k => Desc.css (Desc.mks r k))) (fun x => x.2.1.length) (fun x => x.2.2 + ((Desc.cns x.2.1 : Nat) : Int) = K ∧ 0 ≤ x.2.2 ∧ x.1.length + x.2.1.length ≤ 4611686018427387904) ([], l, k) rfl ⟨hK, h0, by simpa using hl⟩ ?_
  clear hK h0 hl
  intro ⟨D, r, k⟩ ⟨h2, h3, h4⟩ X ih
  dsimp only at h2 h3 h4
  cases r with
  | nil =>
    rw [eK_eq, show Desc.css (Desc.mks [] k) = [] from by rw [Desc.mks]; rfl, List.append_nil]
    conv => whnf
    refine ifP_of (fun c1 => ?_) (fun c1 => ?_)
    · have := of_decide_eq_true c1; omega
    · conv => whnf
      exact ⟨il' (by rw [← h2]; simp [Desc.cns]), rfl⟩
  | cons a r =>
    rw [show Desc.cns (a :: r) = a.cn + Desc.cns r from by rw [Desc.cns]] at h2
    rw [List.length_cons] at h4
    have fin := ih (D ++ [Desc.cells (a.mk' k)], r, k + ((a.cn : Nat) : Int)) ⟨by dsimp only; omega, by dsimp only; omega, by dsimp only; rw [List.length_append, List.length_singleton]; omega⟩ (by dsimp only; rw [List.length_cons]; omega)
    rw [eK_eq, List.append_assoc, List.length_append, List.length_singleton] at fin
    rw [eK_eq, show Desc.css (Desc.mks (a :: r) k) = Desc.cells (a.mk' k) :: Desc.css (Desc.mks r (k + ((a.cn : Nat) : Int))) from by rw [Desc.mks, Desc.css_cons]]
    have fin : X ⟨[(0, .sh 3 (D ++ Desc.cells (a.mk' k) :: Desc.css (Desc.mks r (k + ((a.cn : Nat) : Int))))), (1, .sc (.int .i64 (k + ((a.cn : Nat) : Int)))), (5, .sc (.int .i64 ((D.length + 1 : Nat) : Int)))], [], 0, 41, 0⟩ := fin
    have hw2 := hwn (n := D.length) (by omega)
    clear ih
    obtain ⟨name, fields, oneofs⟩ := a
    have hcn : Desc.cn ⟨name, fields, oneofs⟩ = 1 + FieldDesc.cns fields + oneofs.length := by rw [Desc.cn]
    rw [hcn] at h2
    rw [show k + ((Desc.cn ⟨name, fields, oneofs⟩ : Nat) : Int) = k + 1 + ((FieldDesc.cns fields : Nat) : Int) + ((oneofs.length : Nat) : Int) from by rw [hcn]; omega, show Desc.mk' ⟨name, fields, oneofs⟩ k = ⟨txtM (k), FieldDesc.mks fields (k + 1), strM oneofs (k + 1 + ((FieldDesc.cns fields : Nat) : Int))⟩ from by rw [Desc.mk']] at fin
    rw [show k + ((Desc.cn ⟨name, fields, oneofs⟩ : Nat) : Int) = k + 1 + ((FieldDesc.cns fields : Nat) : Int) + ((oneofs.length : Nat) : Int) from by rw [hcn]; omega, show Desc.mk' ⟨name, fields, oneofs⟩ k = ⟨txtM (k), FieldDesc.mks fields (k + 1), strM oneofs (k + 1 + ((FieldDesc.cns fields : Nat) : Int))⟩ from by rw [Desc.mk']]
    generalize Desc.css (Desc.mks r (k + 1 + ((FieldDesc.cns fields : Nat) : Int) + ((oneofs.length : Nat) : Int))) = R at *
    conv => whnf
    refine ifP_yes lenl ?_
    conv => whnf
    repeat' (first
      | (refine optP_of (gset _) ?_; (conv => whnf))
      | (refine Fn.use (markText_ok (k) (by omega) (by omega)) ?_; (conv => whnf); (first | refine ⟨trivial, ?_⟩ | refine ⟨⟨rfl, clr_of rfl⟩, ?_⟩); (conv => whnf))
      | (refine Fn.use (heldFieldDescS_ok fields (k + 1) (by omega) (by omega)) ?_; (conv => whnf); (first | refine ⟨trivial, ?_⟩ | refine ⟨⟨rfl, clr_of rfl⟩, ?_⟩); (conv => whnf))
      | (refine Fn.use (heldStringS_ok oneofs (k + 1 + ((FieldDesc.cns fields : Nat) : Int)) (by omega) (by omega)) ?_; (conv => whnf); (first | refine ⟨trivial, ?_⟩ | refine ⟨⟨rfl, clr_of rfl⟩, ?_⟩); (conv => whnf))
      | rw [hwk (k := k) (by omega) (by omega)]
      | rw [hw2]
      | (refine ifP_no (neI _) ?_; (conv => whnf))
      | (refine ifP_no (neB _) ?_; (conv => whnf))
      | (refine ifP_no (neS _) ?_; (conv => whnf))
      | (refine ifP_no (decide_eq_false (by omega)) ?_; (conv => whnf)))
    exact fin
theorem markEnumDescS_ok (l : List EnumDesc) (k : Int) (h0 : 0 ≤ k) (hb : k + ((EnumDesc.cns l : Nat) : Int) ≤ 4611686018427387904) : Fn Tryz.prog [] 41 [.hdr 0 [], .sc (.int .i64 k)] [⟨EnumDesc.css l, true, 3, false⟩] (ret [.sc (.int .i64 (k + ((EnumDesc.cns l : Nat) : Int)))] [⟨EnumDesc.css (EnumDesc.mks l k), true, 3, false⟩]) := by
  have hl : l.length ≤ 4611686018427387904 := by have := EnumDesc.cns_ge l; omega
  generalize hF : EnumDesc.mks l k = F
  generalize hK : k + ((EnumDesc.cns l : Nat) : Int) = K at *
  refine fn_of Tryz.func41 (by kernel_rfl) ?_
  conv => whnf
  refine loop_of (A := List EnumDesc × List EnumDesc × Int) (eM 3 35 EnumDesc.css) (fun x => x.2.1.length) (fun x => x.1 ++ EnumDesc.mks x.2.1 x.2.2 = F ∧ x.2.2 + ((EnumDesc.cns x.2.1 : Nat) : Int) = K ∧ 0 ≤ x.2.2 ∧ x.1.length + x.2.1.length ≤ 4611686018427387904) ([], l, k) rfl ⟨hF, hK, h0, by simpa using hl⟩ ?_
  clear hF hK h0 hl
  intro ⟨d, r, k⟩ ⟨h1, h2, h3, h4⟩ X ih
  dsimp only at h1 h2 h3 h4
  cases r with
  | nil =>
    have h6 : d = F := by rw [← h1]; simp [EnumDesc.mks]
    rw [eM_eq, show EnumDesc.css [] = [] from rfl, List.append_nil]
    subst h6
    generalize EnumDesc.css d = D at *
    conv => whnf
    refine ifP_of (fun c1 => ?_) (fun c1 => ?_)
    · have := of_decide_eq_true c1; omega
    · conv => whnf
      exact ⟨il' (by rw [← h2]; simp [EnumDesc.cns]), rfl⟩
  | cons a r =>
    rw [show EnumDesc.cns (a :: r) = a.cn + EnumDesc.cns r from by rw [EnumDesc.cns]] at h2
    rw [List.length_cons] at h4
    have fin := ih (d ++ [(a.mk' k)], r, k + ((a.cn : Nat) : Int)) ⟨by dsimp only; rw [← h1, EnumDesc.mks, List.append_assoc]; rfl, by dsimp only; omega, by dsimp only; omega, by dsimp only; rw [List.length_append, List.length_singleton]; omega⟩ (by dsimp only; rw [List.length_cons]; omega)
    rw [eM_eq, ← EnumDesc.css_app] at fin
    rw [show ((EnumDesc.css (d ++ [(a.mk' k)])).length : Nat) = (EnumDesc.css d).length + 1 by rw [EnumDesc.css_len, EnumDesc.css_len, List.length_append]; rfl] at fin
    rw [eM_eq]
    have hlen : (EnumDesc.css d).length = d.length := EnumDesc.css_len _
    have hw2 := hwn (n := (EnumDesc.css d).length) (by omega)
    clear ih h1
    obtain ⟨name, names, nums⟩ := a
    have hcn : EnumDesc.cn ⟨name, names, nums⟩ = 1 + names.length + nums.length := by rw [EnumDesc.cn]
    rw [hcn] at h2
    rw [show k + ((EnumDesc.cn ⟨name, names, nums⟩ : Nat) : Int) = k + 1 + ((names.length : Nat) : Int) + ((nums.length : Nat) : Int) from by rw [hcn]; omega, show EnumDesc.mk' ⟨name, names, nums⟩ k = ⟨txtM (k), strM names (k + 1), intM nums (k + 1 + ((names.length : Nat) : Int))⟩ from by rw [EnumDesc.mk']] at fin
    generalize EnumDesc.css d = D at *
    rw [show EnumDesc.css (⟨name, names, nums⟩ :: r) = EnumDesc.cells ⟨name, names, nums⟩ :: EnumDesc.css r from EnumDesc.css_cons ..]
    generalize EnumDesc.css r = R at *
    conv => whnf
    refine ifP_yes lenl ?_
    conv => whnf
    repeat' (first
      | (refine optP_of (gset _) ?_; (conv => whnf))
      | (refine Fn.use (markText_ok (k) (by omega) (by omega)) ?_; (conv => whnf); (first | refine ⟨trivial, ?_⟩ | refine ⟨⟨rfl, clr_of rfl⟩, ?_⟩); (conv => whnf))
      | (refine Fn.use (markStringS_ok names (k + 1) (by omega) (by omega)) ?_; (conv => whnf); (first | refine ⟨trivial, ?_⟩ | refine ⟨⟨rfl, clr_of rfl⟩, ?_⟩); (conv => whnf))
      | (refine Fn.use (markIntS_ok nums (k + 1 + ((names.length : Nat) : Int)) (by omega) (by omega)) ?_; (conv => whnf); (first | refine ⟨trivial, ?_⟩ | refine ⟨⟨rfl, clr_of rfl⟩, ?_⟩); (conv => whnf))
      | rw [pset]
      | rw [hwk (k := k) (by omega) (by omega)]
      | rw [hw2])
    exact fin
theorem heldEnumDescS_ok (l : List EnumDesc) (k : Int) (h0 : 0 ≤ k) (hb : k + ((EnumDesc.cns l : Nat) : Int) ≤ 4611686018427387904) : Fn Tryz.prog [] 43 [.sh 3 (EnumDesc.css (EnumDesc.mks l k)), .sc (.int .i64 k)] [] (ret [.sc (.int .i64 (k + ((EnumDesc.cns l : Nat) : Int)))] []) := by
  have hl : l.length ≤ 4611686018427387904 := by have := EnumDesc.cns_ge l; omega
  generalize hK : k + ((EnumDesc.cns l : Nat) : Int) = K at *
  refine fn_of Tryz.func43 (by kernel_rfl) ?_
  conv => whnf
  refine loop_of (A := List (List V) × List EnumDesc × Int) (eK 3 41 (fun r k => EnumDesc.css (EnumDesc.mks r k))) (fun x => x.2.1.length) (fun x => x.2.2 + ((EnumDesc.cns x.2.1 : Nat) : Int) = K ∧ 0 ≤ x.2.2 ∧ x.1.length + x.2.1.length ≤ 4611686018427387904) ([], l, k) rfl ⟨hK, h0, by simpa using hl⟩ ?_
  clear hK h0 hl
  intro ⟨D, r, k⟩ ⟨h2, h3, h4⟩ X ih
  dsimp only at h2 h3 h4
  cases r with
  | nil =>
    rw [eK_eq, show EnumDesc.css (EnumDesc.mks [] k) = [] from by rw [EnumDesc.mks]; rfl, List.append_nil]
    conv => whnf
    refine ifP_of (fun c1 => ?_) (fun c1 => ?_)
    · have := of_decide_eq_true c1; omega
    · conv => whnf
      exact ⟨il' (by rw [← h2]; simp [EnumDesc.cns]), rfl⟩
  | cons a r =>
    rw [show EnumDesc.cns (a :: r) = a.cn + EnumDesc.cns r from by rw [EnumDesc.cns]] at h2
    rw [List.length_cons] at h4
    have fin := ih (D ++ [EnumDesc.cells (a.mk' k)], r, k + ((a.cn : Nat) : Int)) ⟨by dsimp only; omega, by dsimp only; omega, by dsimp only; rw [List.length_append, List.length_singleton]; omega⟩ (by dsimp only; rw [List.length_cons]; omega)
    rw [eK_eq, List.append_assoc, List.length_append, List.length_singleton] at fin
    rw [eK_eq, show EnumDesc.css (EnumDesc.mks (a :: r) k) = EnumDesc.cells (a.mk' k) :: EnumDesc.css (EnumDesc.mks r (k + ((a.cn : Nat) : Int))) from by rw [EnumDesc.mks, EnumDesc.css_cons]]
    have fin : X ⟨[(0, .sh 3 (D ++ EnumDesc.cells (a.mk' k) :: EnumDesc.css (EnumDesc.mks r (k + ((a.cn : Nat) : Int))))), (1, .sc (.int .i64 (k + ((a.cn : Nat) : Int)))), (5, .sc (.int .i64 ((D.length + 1 : Nat) : Int)))], [], 0, 41, 0⟩ := fin
    have hw2 := hwn (n := D.length) (by omega)
    clear ih
    obtain ⟨name, names, nums⟩ := a
    have hcn : EnumDesc.cn ⟨name, names, nums⟩ = 1 + names.length + nums.length := by rw [EnumDesc.cn]
    rw [hcn] at h2
    rw [show k + ((EnumDesc.cn ⟨name, names, nums⟩ : Nat) : Int) = k + 1 + ((names.length : Nat) : Int) + ((nums.length : Nat) : Int) from by rw [hcn]; omega, show EnumDesc.mk' ⟨name, names, nums⟩ k = ⟨txtM (k), strM names (k + 1), intM nums (k + 1 + ((names.length : Nat) : Int))⟩ from by rw [EnumDesc.mk']] at fin
    rw [show k + ((EnumDesc.cn ⟨name, names, nums⟩ : Nat) : Int) = k + 1 + ((names.length : Nat) : Int) + ((nums.length : Nat) : Int) from by rw [hcn]; omega, show EnumDesc.mk' ⟨name, names, nums⟩ k = ⟨txtM (k), strM names (k + 1), intM nums (k + 1 + ((names.length : Nat) : Int))⟩ from by rw [EnumDesc.mk']]
    generalize EnumDesc.css (EnumDesc.mks r (k + 1 + ((names.length : Nat) : Int) + ((nums.length : Nat) : Int))) = R at *
    conv => whnf
    refine ifP_yes lenl ?_
    conv => whnf
    repeat' (first
      | (refine optP_of (gset _) ?_; (conv => whnf))
      | (refine Fn.use (markText_ok (k) (by omega) (by omega)) ?_; (conv => whnf); (first | refine ⟨trivial, ?_⟩ | refine ⟨⟨rfl, clr_of rfl⟩, ?_⟩); (conv => whnf))
      | (refine Fn.use (heldStringS_ok names (k + 1) (by omega) (by omega)) ?_; (conv => whnf); (first | refine ⟨trivial, ?_⟩ | refine ⟨⟨rfl, clr_of rfl⟩, ?_⟩); (conv => whnf))
      | (refine Fn.use (heldIntS_ok nums (k + 1 + ((names.length : Nat) : Int)) (by omega) (by omega)) ?_; (conv => whnf); (first | refine ⟨trivial, ?_⟩ | refine ⟨⟨rfl, clr_of rfl⟩, ?_⟩); (conv => whnf))
      | rw [hwk (k := k) (by omega) (by omega)]
      | rw [hw2]
      | (refine ifP_no (neI _) ?_; (conv => whnf))
      | (refine ifP_no (neB _) ?_; (conv => whnf))
      | (refine ifP_no (neS _) ?_; (conv => whnf))
      | (refine ifP_no (decide_eq_false (by omega)) ?_; (conv => whnf)))
    exact fin
end Ev
