/- Contracts of functions of the given program, shown on the evaluator; each states its own conditions. -/
import Derived.Test.YtfhpkcdkinnnmaaS
open Go Ev
open Go.Proofs
set_option maxRecDepth 100000
set_option maxHeartbeats 4000000
set_option linter.unusedVariables false
namespace Ev
def strC (l : List ByteArray) : List (List V) := l.map fun b => [.sc (.string b)]
def intC (l : List Int) : List (List V) := l.map fun n => [.sc (.int .i64 n)]
def strS : List ByteArray → Nat
  | [] => 0
  | b :: l => b.size + strS l
def strW (l : List ByteArray) : Nat := l.length + strS l
def strO (l : List ByteArray) : Prop := l.length ≤ 9223372036854775807 ∧ ∀ b ∈ l, b.size ≤ 9223372036854775807
theorem strS_drop {l : List ByteArray} {i : Nat} (h : i < l.length) : strS (l.drop i) = l[i].size + strS (l.drop (i + 1)) := by rw [List.drop_eq_getElem_cons h, strS]
theorem strC_len (l : List ByteArray) : (strC l).length = l.length := List.length_map ..
theorem strC_get {xs : List ByteArray} {i : Nat} (h : i < xs.length) : (strC xs)[i]? = some [.sc (.string xs[i])] := get_map h
theorem intC_len (l : List Int) : (intC l).length = l.length := List.length_map ..
theorem intC_get {xs : List Int} {i : Nat} (h : i < xs.length) : (intC xs)[i]? = some [.sc (.int .i64 xs[i])] := get_map h
structure EnumVal where
  name : ByteArray
  num : Int
  pos : Int
def EnumVal.cs : EnumVal → List V
  | ⟨name, num, pos⟩ => [.sc (.string name), .sc (.int .i64 num), .sc (.int .i64 pos)]
def EnumVal.css : List EnumVal → List (List V)
  | [] => []
  | a :: l => a.cs :: EnumVal.css l
def EnumVal.w : EnumVal → Nat
  | ⟨name, num, pos⟩ => name.size
def EnumVal.ss : List EnumVal → Nat
  | [] => 0
  | a :: l => a.w + EnumVal.ss l
def EnumVal.ws (l : List EnumVal) : Nat := l.length + EnumVal.ss l
def EnumVal.ok : EnumVal → Prop
  | ⟨name, num, pos⟩ => name.size ≤ 9223372036854775807
def EnumVal.okl : List EnumVal → Prop
  | [] => True
  | a :: l => a.ok ∧ EnumVal.okl l
def EnumVal.oks (l : List EnumVal) : Prop := l.length ≤ 9223372036854775807 ∧ EnumVal.okl l
def EnumVal.cells (a : EnumVal) : List V := [.sc (.string a.name), .sc (.int .i64 a.num), .sc (.int .i64 a.pos)]
def EnumVal.acells (a : EnumVal) : List V := [.sc (.string a.name), .sc (.int .i64 a.num), .sc (.int .i64 a.pos)]
def EnumVal.ocells (a : EnumVal) : List V := [.sc (.string a.name), .sc (.int .i64 a.num), .sc (.int .i64 a.pos)]
theorem EnumVal.cs_eq (a : EnumVal) : a.cs = a.cells := by cases a; rfl
theorem EnumVal.css_len : ∀ l : List EnumVal, (EnumVal.css l).length = l.length
  | [] => rfl
  | a :: l => by rw [EnumVal.css, List.length_cons, List.length_cons, EnumVal.css_len l]
theorem EnumVal.css_get : ∀ {l : List EnumVal} {i : Nat} (h : i < l.length), (EnumVal.css l)[i]? = some (EnumVal.cells l[i])
  | a :: l, 0, h => by rw [EnumVal.css, List.getElem?_cons_zero, EnumVal.cs_eq]; rfl
  | a :: l, i + 1, h => by rw [EnumVal.css, List.getElem?_cons_succ]; exact EnumVal.css_get (by simpa using h)
theorem EnumVal.okl_mem : ∀ {l : List EnumVal}, EnumVal.okl l → ∀ a ∈ l, a.ok
  | [], _ => fun b hb => nomatch hb
  | a :: l, h => fun b hb => by
    rw [EnumVal.okl] at h
    rcases List.mem_cons.1 hb with rfl | hb
    · exact h.1
    · exact EnumVal.okl_mem h.2 b hb
theorem EnumVal.ss_drop {l : List EnumVal} {i : Nat} (h : i < l.length) : EnumVal.ss (l.drop i) = l[i].w + EnumVal.ss (l.drop (i + 1)) := by rw [List.drop_eq_getElem_cons h, EnumVal.ss]
theorem EnumVal.ss_mem : ∀ {l : List EnumVal} {a : EnumVal}, a ∈ l → a.w ≤ EnumVal.ss l
  | b :: l, a, h => by
    rw [EnumVal.ss]
    rcases List.mem_cons.1 h with rfl | h
    · omega
    · have := EnumVal.ss_mem h; omega
structure Field where
  name : ByteArray
  ty : ByteArray
  num : Int
  rep : Bool
  oneof : ByteArray
  pos : Int
def Field.cs : Field → List V
  | ⟨name, ty, num, rep, oneof, pos⟩ => [.sc (.string name), .sc (.string ty), .sc (.int .i64 num), .sc (.bool rep), .sc (.string oneof), .sc (.int .i64 pos)]
def Field.css : List Field → List (List V)
  | [] => []
  | a :: l => a.cs :: Field.css l
def Field.w : Field → Nat
  | ⟨name, ty, num, rep, oneof, pos⟩ => name.size + ty.size + oneof.size
def Field.ss : List Field → Nat
  | [] => 0
  | a :: l => a.w + Field.ss l
def Field.ws (l : List Field) : Nat := l.length + Field.ss l
def Field.ok : Field → Prop
  | ⟨name, ty, num, rep, oneof, pos⟩ => name.size ≤ 9223372036854775807 ∧ ty.size ≤ 9223372036854775807 ∧ oneof.size ≤ 9223372036854775807
def Field.okl : List Field → Prop
  | [] => True
  | a :: l => a.ok ∧ Field.okl l
def Field.oks (l : List Field) : Prop := l.length ≤ 9223372036854775807 ∧ Field.okl l
def Field.cells (a : Field) : List V := [.sc (.string a.name), .sc (.string a.ty), .sc (.int .i64 a.num), .sc (.bool a.rep), .sc (.string a.oneof), .sc (.int .i64 a.pos)]
def Field.acells (a : Field) : List V := [.sc (.string a.name), .sc (.string a.ty), .sc (.int .i64 a.num), .sc (.bool a.rep), .sc (.string a.oneof), .sc (.int .i64 a.pos)]
def Field.ocells (a : Field) : List V := [.sc (.string a.name), .sc (.string a.ty), .sc (.int .i64 a.num), .sc (.bool a.rep), .sc (.string a.oneof), .sc (.int .i64 a.pos)]
theorem Field.cs_eq (a : Field) : a.cs = a.cells := by cases a; rfl
theorem Field.css_len : ∀ l : List Field, (Field.css l).length = l.length
  | [] => rfl
  | a :: l => by rw [Field.css, List.length_cons, List.length_cons, Field.css_len l]
theorem Field.css_get : ∀ {l : List Field} {i : Nat} (h : i < l.length), (Field.css l)[i]? = some (Field.cells l[i])
  | a :: l, 0, h => by rw [Field.css, List.getElem?_cons_zero, Field.cs_eq]; rfl
  | a :: l, i + 1, h => by rw [Field.css, List.getElem?_cons_succ]; exact Field.css_get (by simpa using h)
theorem Field.okl_mem : ∀ {l : List Field}, Field.okl l → ∀ a ∈ l, a.ok
  | [], _ => fun b hb => nomatch hb
  | a :: l, h => fun b hb => by
    rw [Field.okl] at h
    rcases List.mem_cons.1 hb with rfl | hb
    · exact h.1
    · exact Field.okl_mem h.2 b hb
theorem Field.ss_drop {l : List Field} {i : Nat} (h : i < l.length) : Field.ss (l.drop i) = l[i].w + Field.ss (l.drop (i + 1)) := by rw [List.drop_eq_getElem_cons h, Field.ss]
theorem Field.ss_mem : ∀ {l : List Field} {a : Field}, a ∈ l → a.w ≤ Field.ss l
  | b :: l, a, h => by
    rw [Field.ss]
    rcases List.mem_cons.1 h with rfl | h
    · omega
    · have := Field.ss_mem h; omega
structure Enum where
  name : ByteArray
  vals : List EnumVal
  pos : Int
def Enum.cs : Enum → List V
  | ⟨name, vals, pos⟩ => [.sc (.string name), .sl 3 (EnumVal.css vals), .sc (.int .i64 pos)]
def Enum.css : List Enum → List (List V)
  | [] => []
  | a :: l => a.cs :: Enum.css l
def Enum.w : Enum → Nat
  | ⟨name, vals, pos⟩ => name.size + EnumVal.ws vals
def Enum.ss : List Enum → Nat
  | [] => 0
  | a :: l => a.w + Enum.ss l
def Enum.ws (l : List Enum) : Nat := l.length + Enum.ss l
def Enum.ok : Enum → Prop
  | ⟨name, vals, pos⟩ => name.size ≤ 9223372036854775807 ∧ EnumVal.oks vals
def Enum.okl : List Enum → Prop
  | [] => True
  | a :: l => a.ok ∧ Enum.okl l
def Enum.oks (l : List Enum) : Prop := l.length ≤ 9223372036854775807 ∧ Enum.okl l
def Enum.cells (a : Enum) : List V := [.sc (.string a.name), .sl 3 (EnumVal.css a.vals), .sc (.int .i64 a.pos)]
def Enum.acells (a : Enum) : List V := [.sc (.string a.name), .sh 3 (EnumVal.css a.vals), .sc (.int .i64 a.pos)]
def Enum.ocells (a : Enum) : List V := [.sc (.string a.name), .own true 3 (EnumVal.css a.vals), .sc (.int .i64 a.pos)]
theorem Enum.cs_eq (a : Enum) : a.cs = a.cells := by cases a; rfl
theorem Enum.css_len : ∀ l : List Enum, (Enum.css l).length = l.length
  | [] => rfl
  | a :: l => by rw [Enum.css, List.length_cons, List.length_cons, Enum.css_len l]
theorem Enum.css_get : ∀ {l : List Enum} {i : Nat} (h : i < l.length), (Enum.css l)[i]? = some (Enum.cells l[i])
  | a :: l, 0, h => by rw [Enum.css, List.getElem?_cons_zero, Enum.cs_eq]; rfl
  | a :: l, i + 1, h => by rw [Enum.css, List.getElem?_cons_succ]; exact Enum.css_get (by simpa using h)
theorem Enum.okl_mem : ∀ {l : List Enum}, Enum.okl l → ∀ a ∈ l, a.ok
  | [], _ => fun b hb => nomatch hb
  | a :: l, h => fun b hb => by
    rw [Enum.okl] at h
    rcases List.mem_cons.1 hb with rfl | hb
    · exact h.1
    · exact Enum.okl_mem h.2 b hb
theorem Enum.ss_drop {l : List Enum} {i : Nat} (h : i < l.length) : Enum.ss (l.drop i) = l[i].w + Enum.ss (l.drop (i + 1)) := by rw [List.drop_eq_getElem_cons h, Enum.ss]
theorem Enum.ss_mem : ∀ {l : List Enum} {a : Enum}, a ∈ l → a.w ≤ Enum.ss l
  | b :: l, a, h => by
    rw [Enum.ss]
    rcases List.mem_cons.1 h with rfl | h
    · omega
    · have := Enum.ss_mem h; omega
structure Message where
  name : ByteArray
  fields : List Field
  oneofs : List ByteArray
  reserved : List Int
  messages : List Message
  enums : List Enum
  pos : Int
mutual
def Message.cs : Message → List V
  | ⟨name, fields, oneofs, reserved, messages, enums, pos⟩ => [.sc (.string name), .sl 6 (Field.css fields), .sl 1 (strC oneofs), .sl 1 (intC reserved), .sl 7 (Message.css messages), .sl 3 (Enum.css enums), .sc (.int .i64 pos)]
def Message.css : List Message → List (List V)
  | [] => []
  | a :: l => a.cs :: Message.css l
end
mutual
def Message.w : Message → Nat
  | ⟨name, fields, oneofs, reserved, messages, enums, pos⟩ => name.size + Field.ws fields + strW oneofs + reserved.length + (messages.length + Message.ss messages) + Enum.ws enums
def Message.ss : List Message → Nat
  | [] => 0
  | a :: l => a.w + Message.ss l
end
def Message.ws (l : List Message) : Nat := l.length + Message.ss l
mutual
def Message.ok : Message → Prop
  | ⟨name, fields, oneofs, reserved, messages, enums, pos⟩ => name.size ≤ 9223372036854775807 ∧ Field.oks fields ∧ strO oneofs ∧ reserved.length ≤ 9223372036854775807 ∧ (messages.length ≤ 9223372036854775807 ∧ Message.okl messages) ∧ Enum.oks enums
def Message.okl : List Message → Prop
  | [] => True
  | a :: l => a.ok ∧ Message.okl l
end
def Message.oks (l : List Message) : Prop := l.length ≤ 9223372036854775807 ∧ Message.okl l
def Message.cells (a : Message) : List V := [.sc (.string a.name), .sl 6 (Field.css a.fields), .sl 1 (strC a.oneofs), .sl 1 (intC a.reserved), .sl 7 (Message.css a.messages), .sl 3 (Enum.css a.enums), .sc (.int .i64 a.pos)]
def Message.acells (a : Message) : List V := [.sc (.string a.name), .sh 6 (Field.css a.fields), .sh 1 (strC a.oneofs), .sh 1 (intC a.reserved), .sh 7 (Message.css a.messages), .sh 3 (Enum.css a.enums), .sc (.int .i64 a.pos)]
def Message.ocells (a : Message) : List V := [.sc (.string a.name), .own true 6 (Field.css a.fields), .own true 1 (strC a.oneofs), .own true 1 (intC a.reserved), .own true 7 (Message.css a.messages), .own true 3 (Enum.css a.enums), .sc (.int .i64 a.pos)]
theorem Message.cs_eq (a : Message) : a.cs = a.cells := by cases a; rfl
theorem Message.css_len : ∀ l : List Message, (Message.css l).length = l.length
  | [] => rfl
  | a :: l => by rw [Message.css, List.length_cons, List.length_cons, Message.css_len l]
theorem Message.css_get : ∀ {l : List Message} {i : Nat} (h : i < l.length), (Message.css l)[i]? = some (Message.cells l[i])
  | a :: l, 0, h => by rw [Message.css, List.getElem?_cons_zero, Message.cs_eq]; rfl
  | a :: l, i + 1, h => by rw [Message.css, List.getElem?_cons_succ]; exact Message.css_get (by simpa using h)
theorem Message.okl_mem : ∀ {l : List Message}, Message.okl l → ∀ a ∈ l, a.ok
  | [], _ => fun b hb => nomatch hb
  | a :: l, h => fun b hb => by
    rw [Message.okl] at h
    rcases List.mem_cons.1 hb with rfl | hb
    · exact h.1
    · exact Message.okl_mem h.2 b hb
theorem Message.ss_drop {l : List Message} {i : Nat} (h : i < l.length) : Message.ss (l.drop i) = l[i].w + Message.ss (l.drop (i + 1)) := by rw [List.drop_eq_getElem_cons h, Message.ss]
theorem Message.ss_mem : ∀ {l : List Message} {a : Message}, a ∈ l → a.w ≤ Message.ss l
  | b :: l, a, h => by
    rw [Message.ss]
    rcases List.mem_cons.1 h with rfl | h
    · omega
    · have := Message.ss_mem h; omega
structure File where
  messages : List Message
  enums : List Enum
def File.cs : File → List V
  | ⟨messages, enums⟩ => [.sl 7 (Message.css messages), .sl 3 (Enum.css enums)]
def File.css : List File → List (List V)
  | [] => []
  | a :: l => a.cs :: File.css l
def File.w : File → Nat
  | ⟨messages, enums⟩ => Message.ws messages + Enum.ws enums
def File.ss : List File → Nat
  | [] => 0
  | a :: l => a.w + File.ss l
def File.ws (l : List File) : Nat := l.length + File.ss l
def File.ok : File → Prop
  | ⟨messages, enums⟩ => Message.oks messages ∧ Enum.oks enums
def File.okl : List File → Prop
  | [] => True
  | a :: l => a.ok ∧ File.okl l
def File.oks (l : List File) : Prop := l.length ≤ 9223372036854775807 ∧ File.okl l
def File.cells (a : File) : List V := [.sl 7 (Message.css a.messages), .sl 3 (Enum.css a.enums)]
def File.acells (a : File) : List V := [.sh 7 (Message.css a.messages), .sh 3 (Enum.css a.enums)]
def File.ocells (a : File) : List V := [.own true 7 (Message.css a.messages), .own true 3 (Enum.css a.enums)]
theorem File.cs_eq (a : File) : a.cs = a.cells := by cases a; rfl
theorem File.css_len : ∀ l : List File, (File.css l).length = l.length
  | [] => rfl
  | a :: l => by rw [File.css, List.length_cons, List.length_cons, File.css_len l]
theorem File.css_get : ∀ {l : List File} {i : Nat} (h : i < l.length), (File.css l)[i]? = some (File.cells l[i])
  | a :: l, 0, h => by rw [File.css, List.getElem?_cons_zero, File.cs_eq]; rfl
  | a :: l, i + 1, h => by rw [File.css, List.getElem?_cons_succ]; exact File.css_get (by simpa using h)
theorem File.okl_mem : ∀ {l : List File}, File.okl l → ∀ a ∈ l, a.ok
  | [], _ => fun b hb => nomatch hb
  | a :: l, h => fun b hb => by
    rw [File.okl] at h
    rcases List.mem_cons.1 hb with rfl | hb
    · exact h.1
    · exact File.okl_mem h.2 b hb
theorem File.ss_drop {l : List File} {i : Nat} (h : i < l.length) : File.ss (l.drop i) = l[i].w + File.ss (l.drop (i + 1)) := by rw [List.drop_eq_getElem_cons h, File.ss]
theorem File.ss_mem : ∀ {l : List File} {a : File}, a ∈ l → a.w ≤ File.ss l
  | b :: l, a, h => by
    rw [File.ss]
    rcases List.mem_cons.1 h with rfl | h
    · omega
    · have := File.ss_mem h; omega
theorem szStringS_ok (xs : List ByteArray) (l : Int) (hb : strO xs) (h0 : 0 ≤ l) (h1 : l ≤ 1048576)  : Fn Try.prog [] 168 [.sh 1 (strC xs), .sc (.int .i64 l)] [] (ret [.sc (.int .i64 (dec l (strW xs)))] []) := by
  obtain ⟨hb, hs⟩ := hb
  refine fn_of Try.func168 (by kernel_rfl) ?_
  have hlm := strC_len xs
  conv => whnf
  rw [hlm]
  have e : IntKind.i64.wrap (l - ↑xs.length) = l - ↑xs.length := wrap64 (by omega) (by omega)
  rw [e]
  refine ifP_of (fun h => ?_) (fun h => ?_)
  · have h := of_decide_eq_true h
    conv => whnf
    exact ⟨congrArg (fun x : Int => [V.sc (.int .i64 x)]) (show (-1 : Int) = _ from (dec_neg (by unfold strW; omega)).symm), rfl⟩
  · have h := of_decide_eq_false h
    conv => whnf
    refine loop_of (A := Nat × Int) (fun x => ⟨[(0, .sh 1 (strC xs)), (1, .sc (.int .i64 x.2)), (5, .sc (.int .i64 x.1))], [], 0, 28, 0⟩) (fun x => xs.length - x.1) (fun x => (x.1 ≤ xs.length ∧ 0 ≤ x.2 ∧ x.2 ≤ 1048576) ∧ dec x.2 (strS (xs.drop x.1)) = dec l (strW xs)) (0, l - xs.length) rfl ⟨⟨Nat.zero_le _, by dsimp only; omega, by dsimp only; omega⟩, ?_⟩ ?_
    · dsimp only
      rw [List.drop_zero, dec_dec (l := l) (c := strW xs) (by omega) rfl]
    intro ⟨i, m⟩ ⟨⟨hi, hm0, hm1⟩, hout⟩ X ih
    dsimp only at hi hm0 hm1 hout
    conv => whnf
    refine ifP_of (fun h2 => ?_) (fun h2 => ?_)
    · have hi1 : i < xs.length := by rw [hlm] at h2; have := of_decide_eq_true h2; omega
      have hss := strS_drop hi1
      conv => whnf
      try (refine chkP_of (by simp; done) ?_; conv => whnf)
      refine optP_of (strC_get hi1) ?_
      conv => whnf
      have hsz := hs xs[i] (List.getElem_mem hi1)
      have e2 : IntKind.i64.wrap (m - ↑xs[i].size) = m - ↑xs[i].size := wrap64 (by omega) (by omega)
      have e3 : ∀ d : Int, IntKind.i64.wrap ((i, m).snd - ↑xs[i].size) = d → d = m - ↑xs[i].size := fun d hd => hd.symm.trans e2
      generalize hd : IntKind.i64.wrap ((i, m).snd - ↑xs[i].size) = d
      have hd := e3 d hd
      refine ifP_of (fun h3 => ?_) (fun h3 => ?_)
      · have h3 := of_decide_eq_true h3
        conv => whnf
        exact ⟨congrArg (fun x : Int => [V.sc (.int .i64 x)]) (show (-1 : Int) = dec l (strW xs) by rw [← hout, dec_neg (by omega)]), rfl⟩
      · have h3 := of_decide_eq_false h3
        conv => whnf
        have hw : IntKind.i64.wrap ((i : Int) + 1) = ((i + 1 : Nat) : Int) := by rw [wrap64 (by omega) (by omega)]; omega
        have h5 := ih (i+1, d) ⟨⟨by dsimp only; omega, by dsimp only; omega, by dsimp only; omega⟩, by dsimp only; rw [hd, dec_dec (l := m) (a := xs[i].size) (by omega) hss, hout]⟩ (by dsimp only; omega)
        dsimp only at h5
        rw [← hw] at h5
        exact h5
    · have hi1 : ¬ i < xs.length := by rw [hlm] at h2; have := of_decide_eq_false h2; omega
      conv => whnf
      exact ⟨congrArg (fun x : Int => [V.sc (.int .i64 x)]) (show m = dec l (strW xs) by rw [← hout, List.drop_eq_nil_of_le (by omega), show strS [] = 0 from rfl, dec_zero hm0]), rfl⟩
theorem szIntS_ok (xs : List Int) (l : Int) (hb : xs.length ≤ 9223372036854775807) (h0 : 0 ≤ l) (h1 : l ≤ 1048576) : Fn Try.prog [] 169 [.sh 1 (intC xs), .sc (.int .i64 l)] [] (ret [.sc (.int .i64 (dec l xs.length))] []) := by
  refine fn_of Try.func169 (by kernel_rfl) ?_
  have hlm := intC_len xs
  conv => whnf
  rw [hlm]
  have e : IntKind.i64.wrap (l - ↑xs.length) = l - ↑xs.length := wrap64 (by omega) (by omega)
  rw [e]
  refine ifP_of (fun h => ?_) (fun h => ?_)
  · have h := of_decide_eq_true h
    conv => whnf
    exact ⟨congrArg (fun x : Int => [V.sc (.int .i64 x)]) (show (-1 : Int) = _ from (dec_neg (by omega)).symm), rfl⟩
  · have h := of_decide_eq_false h
    conv => whnf
    exact ⟨congrArg (fun x : Int => [V.sc (.int .i64 x)]) (show l - (xs.length : Int) = _ from (dec_pos (by omega)).symm), rfl⟩
theorem szEnumValS_ok (xs : List EnumVal) (l : Int) (hb : xs.length ≤ 9223372036854775807) (h0 : 0 ≤ l) (h1 : l ≤ 1048576) (H : ∀ x ∈ xs, ∀ l, 0 ≤ l → l ≤ 1048576 → Fn Try.prog [] 198 [.agg x.acells, .sc (.int .i64 l)] [] (ret [.sc (.int .i64 (dec l x.w))] [])) : Fn Try.prog [] 170 [.sh 3 (EnumVal.css xs), .sc (.int .i64 l)] [] (ret [.sc (.int .i64 (dec l (EnumVal.ws xs)))] []) := by
  refine fn_of Try.func170 (by kernel_rfl) ?_
  have hlm := EnumVal.css_len xs
  conv => whnf
  rw [hlm]
  have e : IntKind.i64.wrap (l - ↑xs.length) = l - ↑xs.length := wrap64 (by omega) (by omega)
  rw [e]
  refine ifP_of (fun h => ?_) (fun h => ?_)
  · have h := of_decide_eq_true h
    conv => whnf
    exact ⟨congrArg (fun x : Int => [V.sc (.int .i64 x)]) (show (-1 : Int) = _ from (dec_neg (by unfold EnumVal.ws; omega)).symm), rfl⟩
  · have h := of_decide_eq_false h
    conv => whnf
    refine loop_of (A := Nat × Int) (fun x => ⟨[(0, .sh 3 (EnumVal.css xs)), (1, .sc (.int .i64 x.2)), (5, .sc (.int .i64 x.1))], [], 0, 27, 0⟩) (fun x => xs.length - x.1) (fun x => (x.1 ≤ xs.length ∧ 0 ≤ x.2 ∧ x.2 ≤ 1048576) ∧ dec x.2 (EnumVal.ss (xs.drop x.1)) = dec l (EnumVal.ws xs)) (0, l - xs.length) rfl ⟨⟨Nat.zero_le _, by dsimp only; omega, by dsimp only; omega⟩, ?_⟩ ?_
    · dsimp only
      rw [List.drop_zero, dec_dec (l := l) (c := EnumVal.ws xs) (by omega) rfl]
    intro ⟨i, m⟩ ⟨⟨hi, hm0, hm1⟩, hout⟩ X ih
    dsimp only at hi hm0 hm1 hout
    conv => whnf
    refine ifP_of (fun h2 => ?_) (fun h2 => ?_)
    · have hi1 : i < xs.length := by rw [hlm] at h2; have := of_decide_eq_true h2; omega
      have hss := EnumVal.ss_drop hi1
      conv => whnf
      try (refine chkP_of (by simp; done) ?_; conv => whnf)
      refine optP_of (EnumVal.css_get hi1) ?_
      conv => whnf
      refine Fn.use (H xs[i] (List.getElem_mem hi1) m hm0 hm1) ?_
      conv => whnf
      refine ⟨trivial, ?_⟩
      conv => whnf
      generalize hd : dec m xs[i].w = d
      refine ifP_of (fun h3 => ?_) (fun h3 => ?_)
      · have h3 := dec_lt hd (of_decide_eq_true h3) hm0
        conv => whnf
        exact ⟨congrArg (fun x : Int => [V.sc (.int .i64 x)]) (show (-1 : Int) = dec l (EnumVal.ws xs) by rw [← hout, dec_neg (by omega)]), rfl⟩
      · obtain ⟨h3, h4⟩ := dec_ge hd (of_decide_eq_false h3)
        conv => whnf
        have hw : IntKind.i64.wrap ((i : Int) + 1) = ((i + 1 : Nat) : Int) := by rw [wrap64 (by omega) (by omega)]; omega
        have h5 := ih (i+1, d) ⟨⟨by dsimp only; omega, by dsimp only; omega, by dsimp only; omega⟩, by dsimp only; rw [h4, dec_dec h3 hss, hout]⟩ (by dsimp only; omega)
        dsimp only at h5
        rw [← hw] at h5
        exact h5
    · have hi1 : ¬ i < xs.length := by rw [hlm] at h2; have := of_decide_eq_false h2; omega
      conv => whnf
      exact ⟨congrArg (fun x : Int => [V.sc (.int .i64 x)]) (show m = dec l (EnumVal.ws xs) by rw [← hout, List.drop_eq_nil_of_le (by omega), show EnumVal.ss [] = 0 from rfl, dec_zero hm0]), rfl⟩
theorem szFieldS_ok (xs : List Field) (l : Int) (hb : xs.length ≤ 9223372036854775807) (h0 : 0 ≤ l) (h1 : l ≤ 1048576) (H : ∀ x ∈ xs, ∀ l, 0 ≤ l → l ≤ 1048576 → Fn Try.prog [] 197 [.agg x.acells, .sc (.int .i64 l)] [] (ret [.sc (.int .i64 (dec l x.w))] [])) : Fn Try.prog [] 167 [.sh 6 (Field.css xs), .sc (.int .i64 l)] [] (ret [.sc (.int .i64 (dec l (Field.ws xs)))] []) := by
  refine fn_of Try.func167 (by kernel_rfl) ?_
  have hlm := Field.css_len xs
  conv => whnf
  rw [hlm]
  have e : IntKind.i64.wrap (l - ↑xs.length) = l - ↑xs.length := wrap64 (by omega) (by omega)
  rw [e]
  refine ifP_of (fun h => ?_) (fun h => ?_)
  · have h := of_decide_eq_true h
    conv => whnf
    exact ⟨congrArg (fun x : Int => [V.sc (.int .i64 x)]) (show (-1 : Int) = _ from (dec_neg (by unfold Field.ws; omega)).symm), rfl⟩
  · have h := of_decide_eq_false h
    conv => whnf
    refine loop_of (A := Nat × Int) (fun x => ⟨[(0, .sh 6 (Field.css xs)), (1, .sc (.int .i64 x.2)), (5, .sc (.int .i64 x.1))], [], 0, 27, 0⟩) (fun x => xs.length - x.1) (fun x => (x.1 ≤ xs.length ∧ 0 ≤ x.2 ∧ x.2 ≤ 1048576) ∧ dec x.2 (Field.ss (xs.drop x.1)) = dec l (Field.ws xs)) (0, l - xs.length) rfl ⟨⟨Nat.zero_le _, by dsimp only; omega, by dsimp only; omega⟩, ?_⟩ ?_
    · dsimp only
      rw [List.drop_zero, dec_dec (l := l) (c := Field.ws xs) (by omega) rfl]
    intro ⟨i, m⟩ ⟨⟨hi, hm0, hm1⟩, hout⟩ X ih
    dsimp only at hi hm0 hm1 hout
    conv => whnf
    refine ifP_of (fun h2 => ?_) (fun h2 => ?_)
    · have hi1 : i < xs.length := by rw [hlm] at h2; have := of_decide_eq_true h2; omega
      have hss := Field.ss_drop hi1
      conv => whnf
      try (refine chkP_of (by simp; done) ?_; conv => whnf)
      refine optP_of (Field.css_get hi1) ?_
      conv => whnf
      refine Fn.use (H xs[i] (List.getElem_mem hi1) m hm0 hm1) ?_
      conv => whnf
      refine ⟨trivial, ?_⟩
      conv => whnf
      generalize hd : dec m xs[i].w = d
      refine ifP_of (fun h3 => ?_) (fun h3 => ?_)
      · have h3 := dec_lt hd (of_decide_eq_true h3) hm0
        conv => whnf
        exact ⟨congrArg (fun x : Int => [V.sc (.int .i64 x)]) (show (-1 : Int) = dec l (Field.ws xs) by rw [← hout, dec_neg (by omega)]), rfl⟩
      · obtain ⟨h3, h4⟩ := dec_ge hd (of_decide_eq_false h3)
        conv => whnf
        have hw : IntKind.i64.wrap ((i : Int) + 1) = ((i + 1 : Nat) : Int) := by rw [wrap64 (by omega) (by omega)]; omega
        have h5 := ih (i+1, d) ⟨⟨by dsimp only; omega, by dsimp only; omega, by dsimp only; omega⟩, by dsimp only; rw [h4, dec_dec h3 hss, hout]⟩ (by dsimp only; omega)
        dsimp only at h5
        rw [← hw] at h5
        exact h5
    · have hi1 : ¬ i < xs.length := by rw [hlm] at h2; have := of_decide_eq_false h2; omega
      conv => whnf
      exact ⟨congrArg (fun x : Int => [V.sc (.int .i64 x)]) (show m = dec l (Field.ws xs) by rw [← hout, List.drop_eq_nil_of_le (by omega), show Field.ss [] = 0 from rfl, dec_zero hm0]), rfl⟩
theorem szEnumS_ok (xs : List Enum) (l : Int) (hb : xs.length ≤ 9223372036854775807) (h0 : 0 ≤ l) (h1 : l ≤ 1048576) (H : ∀ x ∈ xs, ∀ l, 0 ≤ l → l ≤ 1048576 → Fn Try.prog [] 97 [.agg x.acells, .sc (.int .i64 l)] [] (ret [.sc (.int .i64 (dec l x.w))] [])) : Fn Try.prog [] 37 [.sh 3 (Enum.css xs), .sc (.int .i64 l)] [] (ret [.sc (.int .i64 (dec l (Enum.ws xs)))] []) := by
  refine fn_of Try.func37 (by kernel_rfl) ?_
  have hlm := Enum.css_len xs
  conv => whnf
  rw [hlm]
  have e : IntKind.i64.wrap (l - ↑xs.length) = l - ↑xs.length := wrap64 (by omega) (by omega)
  rw [e]
  refine ifP_of (fun h => ?_) (fun h => ?_)
  · have h := of_decide_eq_true h
    conv => whnf
    exact ⟨congrArg (fun x : Int => [V.sc (.int .i64 x)]) (show (-1 : Int) = _ from (dec_neg (by unfold Enum.ws; omega)).symm), rfl⟩
  · have h := of_decide_eq_false h
    conv => whnf
    refine loop_of (A := Nat × Int) (fun x => ⟨[(0, .sh 3 (Enum.css xs)), (1, .sc (.int .i64 x.2)), (5, .sc (.int .i64 x.1))], [], 0, 27, 0⟩) (fun x => xs.length - x.1) (fun x => (x.1 ≤ xs.length ∧ 0 ≤ x.2 ∧ x.2 ≤ 1048576) ∧ dec x.2 (Enum.ss (xs.drop x.1)) = dec l (Enum.ws xs)) (0, l - xs.length) rfl ⟨⟨Nat.zero_le _, by dsimp only; omega, by dsimp only; omega⟩, ?_⟩ ?_
    · dsimp only
      rw [List.drop_zero, dec_dec (l := l) (c := Enum.ws xs) (by omega) rfl]
    intro ⟨i, m⟩ ⟨⟨hi, hm0, hm1⟩, hout⟩ X ih
    dsimp only at hi hm0 hm1 hout
    conv => whnf
    refine ifP_of (fun h2 => ?_) (fun h2 => ?_)
    · have hi1 : i < xs.length := by rw [hlm] at h2; have := of_decide_eq_true h2; omega
      have hss := Enum.ss_drop hi1
      conv => whnf
      try (refine chkP_of (by simp; done) ?_; conv => whnf)
      refine optP_of (Enum.css_get hi1) ?_
      conv => whnf
      refine Fn.use (H xs[i] (List.getElem_mem hi1) m hm0 hm1) ?_
      conv => whnf
      refine ⟨trivial, ?_⟩
      conv => whnf
      generalize hd : dec m xs[i].w = d
      refine ifP_of (fun h3 => ?_) (fun h3 => ?_)
      · have h3 := dec_lt hd (of_decide_eq_true h3) hm0
        conv => whnf
        exact ⟨congrArg (fun x : Int => [V.sc (.int .i64 x)]) (show (-1 : Int) = dec l (Enum.ws xs) by rw [← hout, dec_neg (by omega)]), rfl⟩
      · obtain ⟨h3, h4⟩ := dec_ge hd (of_decide_eq_false h3)
        conv => whnf
        have hw : IntKind.i64.wrap ((i : Int) + 1) = ((i + 1 : Nat) : Int) := by rw [wrap64 (by omega) (by omega)]; omega
        have h5 := ih (i+1, d) ⟨⟨by dsimp only; omega, by dsimp only; omega, by dsimp only; omega⟩, by dsimp only; rw [h4, dec_dec h3 hss, hout]⟩ (by dsimp only; omega)
        dsimp only at h5
        rw [← hw] at h5
        exact h5
    · have hi1 : ¬ i < xs.length := by rw [hlm] at h2; have := of_decide_eq_false h2; omega
      conv => whnf
      exact ⟨congrArg (fun x : Int => [V.sc (.int .i64 x)]) (show m = dec l (Enum.ws xs) by rw [← hout, List.drop_eq_nil_of_le (by omega), show Enum.ss [] = 0 from rfl, dec_zero hm0]), rfl⟩
theorem szMessageS_ok (xs : List Message) (l : Int) (hb : xs.length ≤ 9223372036854775807) (h0 : 0 ≤ l) (h1 : l ≤ 1048576) (H : ∀ x ∈ xs, ∀ l, 0 ≤ l → l ≤ 1048576 → Fn Try.prog [] 96 [.agg x.acells, .sc (.int .i64 l)] [] (ret [.sc (.int .i64 (dec l x.w))] [])) : Fn Try.prog [] 36 [.sh 7 (Message.css xs), .sc (.int .i64 l)] [] (ret [.sc (.int .i64 (dec l (Message.ws xs)))] []) := by
  refine fn_of Try.func36 (by kernel_rfl) ?_
  have hlm := Message.css_len xs
  conv => whnf
  rw [hlm]
  have e : IntKind.i64.wrap (l - ↑xs.length) = l - ↑xs.length := wrap64 (by omega) (by omega)
  rw [e]
  refine ifP_of (fun h => ?_) (fun h => ?_)
  · have h := of_decide_eq_true h
    conv => whnf
    exact ⟨congrArg (fun x : Int => [V.sc (.int .i64 x)]) (show (-1 : Int) = _ from (dec_neg (by unfold Message.ws; omega)).symm), rfl⟩
  · have h := of_decide_eq_false h
    conv => whnf
    refine loop_of (A := Nat × Int) (fun x => ⟨[(0, .sh 7 (Message.css xs)), (1, .sc (.int .i64 x.2)), (5, .sc (.int .i64 x.1))], [], 0, 27, 0⟩) (fun x => xs.length - x.1) (fun x => (x.1 ≤ xs.length ∧ 0 ≤ x.2 ∧ x.2 ≤ 1048576) ∧ dec x.2 (Message.ss (xs.drop x.1)) = dec l (Message.ws xs)) (0, l - xs.length) rfl ⟨⟨Nat.zero_le _, by dsimp only; omega, by dsimp only; omega⟩, ?_⟩ ?_
    · dsimp only
      rw [List.drop_zero, dec_dec (l := l) (c := Message.ws xs) (by omega) rfl]
    intro ⟨i, m⟩ ⟨⟨hi, hm0, hm1⟩, hout⟩ X ih
    dsimp only at hi hm0 hm1 hout
    conv => whnf
    refine ifP_of (fun h2 => ?_) (fun h2 => ?_)
    · have hi1 : i < xs.length := by rw [hlm] at h2; have := of_decide_eq_true h2; omega
      have hss := Message.ss_drop hi1
      conv => whnf
      try (refine chkP_of (by simp; done) ?_; conv => whnf)
      refine optP_of (Message.css_get hi1) ?_
      conv => whnf
      refine Fn.use (H xs[i] (List.getElem_mem hi1) m hm0 hm1) ?_
      conv => whnf
      refine ⟨trivial, ?_⟩
      conv => whnf
      generalize hd : dec m xs[i].w = d
      refine ifP_of (fun h3 => ?_) (fun h3 => ?_)
      · have h3 := dec_lt hd (of_decide_eq_true h3) hm0
        conv => whnf
        exact ⟨congrArg (fun x : Int => [V.sc (.int .i64 x)]) (show (-1 : Int) = dec l (Message.ws xs) by rw [← hout, dec_neg (by omega)]), rfl⟩
      · obtain ⟨h3, h4⟩ := dec_ge hd (of_decide_eq_false h3)
        conv => whnf
        have hw : IntKind.i64.wrap ((i : Int) + 1) = ((i + 1 : Nat) : Int) := by rw [wrap64 (by omega) (by omega)]; omega
        have h5 := ih (i+1, d) ⟨⟨by dsimp only; omega, by dsimp only; omega, by dsimp only; omega⟩, by dsimp only; rw [h4, dec_dec h3 hss, hout]⟩ (by dsimp only; omega)
        dsimp only at h5
        rw [← hw] at h5
        exact h5
    · have hi1 : ¬ i < xs.length := by rw [hlm] at h2; have := of_decide_eq_false h2; omega
      conv => whnf
      exact ⟨congrArg (fun x : Int => [V.sc (.int .i64 x)]) (show m = dec l (Message.ws xs) by rw [← hout, List.drop_eq_nil_of_le (by omega), show Message.ss [] = 0 from rfl, dec_zero hm0]), rfl⟩
theorem szEnumVal_ok (a : EnumVal) (l : Int) (hb_name : a.name.size ≤ 9223372036854775807) (h0 : 0 ≤ l) (h1 : l ≤ 1048576) : Fn Try.prog [] 198 [.agg a.acells, .sc (.int .i64 l)] [] (ret [.sc (.int .i64 (dec l a.w))] []) := by
  obtain ⟨name, num, pos⟩ := a
  refine fn_of Try.func198 (by kernel_rfl) ?_
  have hb_name : name.size ≤ 9223372036854775807 := hb_name
  conv => whnf
  generalize hd1 : IntKind.i64.wrap (l - ↑name.size) = d1
  have e1 : d1 = l - ↑name.size := hd1.symm.trans (wrap64 (by omega) (by omega))
  refine ifP_of (fun h => ?_) (fun h => ?_)
  · have h : d1 < 0 := of_decide_eq_true h
    conv => whnf
    exact ⟨congrArg (fun x : Int => [V.sc (.int .i64 x)]) (show (-1 : Int) = dec l (name.size) from (dec_neg (by omega)).symm), rfl⟩
  · have g1 : ¬ d1 < 0 := of_decide_eq_false h
    conv => whnf
    exact ⟨congrArg (fun x : Int => [V.sc (.int .i64 x)]) (show d1 = dec l (name.size) by rw [dec_pos (by omega)]; omega), rfl⟩
theorem szField_ok (a : Field) (l : Int) (hb_name : a.name.size ≤ 9223372036854775807) (hb_ty : a.ty.size ≤ 9223372036854775807) (hb_oneof : a.oneof.size ≤ 9223372036854775807) (h0 : 0 ≤ l) (h1 : l ≤ 1048576) : Fn Try.prog [] 197 [.agg a.acells, .sc (.int .i64 l)] [] (ret [.sc (.int .i64 (dec l a.w))] []) := by
  obtain ⟨name, ty, num, rep, oneof, pos⟩ := a
  refine fn_of Try.func197 (by kernel_rfl) ?_
  have hb_name : name.size ≤ 9223372036854775807 := hb_name
  have hb_ty : ty.size ≤ 9223372036854775807 := hb_ty
  have hb_oneof : oneof.size ≤ 9223372036854775807 := hb_oneof
  conv => whnf
  generalize hd1 : IntKind.i64.wrap (l - ↑name.size) = d1
  have e1 : d1 = l - ↑name.size := hd1.symm.trans (wrap64 (by omega) (by omega))
  refine ifP_of (fun h => ?_) (fun h => ?_)
  · have h : d1 < 0 := of_decide_eq_true h
    conv => whnf
    exact ⟨congrArg (fun x : Int => [V.sc (.int .i64 x)]) (show (-1 : Int) = dec l (name.size + ty.size + oneof.size) from (dec_neg (by omega)).symm), rfl⟩
  · have g1 : ¬ d1 < 0 := of_decide_eq_false h
    conv => whnf
    generalize hd2 : IntKind.i64.wrap (d1 - ↑ty.size) = d2
    have e2 : d2 = d1 - ↑ty.size := hd2.symm.trans (wrap64 (by omega) (by omega))
    refine ifP_of (fun h => ?_) (fun h => ?_)
    · have h : d2 < 0 := of_decide_eq_true h
      conv => whnf
      exact ⟨congrArg (fun x : Int => [V.sc (.int .i64 x)]) (show (-1 : Int) = dec l (name.size + ty.size + oneof.size) from (dec_neg (by omega)).symm), rfl⟩
    · have g2 : ¬ d2 < 0 := of_decide_eq_false h
      conv => whnf
      generalize hd3 : IntKind.i64.wrap (d2 - ↑oneof.size) = d3
      have e3 : d3 = d2 - ↑oneof.size := hd3.symm.trans (wrap64 (by omega) (by omega))
      refine ifP_of (fun h => ?_) (fun h => ?_)
      · have h : d3 < 0 := of_decide_eq_true h
        conv => whnf
        exact ⟨congrArg (fun x : Int => [V.sc (.int .i64 x)]) (show (-1 : Int) = dec l (name.size + ty.size + oneof.size) from (dec_neg (by omega)).symm), rfl⟩
      · have g3 : ¬ d3 < 0 := of_decide_eq_false h
        conv => whnf
        exact ⟨congrArg (fun x : Int => [V.sc (.int .i64 x)]) (show d3 = dec l (name.size + ty.size + oneof.size) by rw [dec_pos (by omega)]; omega), rfl⟩
theorem szEnum_ok (a : Enum) (l : Int) (hb_name : a.name.size ≤ 9223372036854775807) (H_vals : ∀ l, 0 ≤ l → l ≤ 1048576 → Fn Try.prog [] 170 [.sh 3 (EnumVal.css a.vals), .sc (.int .i64 l)] [] (ret [.sc (.int .i64 (dec l (EnumVal.ws a.vals)))] [])) (h0 : 0 ≤ l) (h1 : l ≤ 1048576) : Fn Try.prog [] 97 [.agg a.acells, .sc (.int .i64 l)] [] (ret [.sc (.int .i64 (dec l a.w))] []) := by
  obtain ⟨name, vals, pos⟩ := a
  refine fn_of Try.func97 (by kernel_rfl) ?_
  have hb_name : name.size ≤ 9223372036854775807 := hb_name
  conv => whnf
  generalize hd1 : IntKind.i64.wrap (l - ↑name.size) = d1
  have e1 : d1 = l - ↑name.size := hd1.symm.trans (wrap64 (by omega) (by omega))
  refine ifP_of (fun h => ?_) (fun h => ?_)
  · have h : d1 < 0 := of_decide_eq_true h
    conv => whnf
    exact ⟨congrArg (fun x : Int => [V.sc (.int .i64 x)]) (show (-1 : Int) = dec l (name.size + EnumVal.ws vals) from (dec_neg (by omega)).symm), rfl⟩
  · have g1 : ¬ d1 < 0 := of_decide_eq_false h
    conv => whnf
    refine Fn.use (H_vals d1 (by omega) (by omega)) ?_
    conv => whnf
    refine ⟨trivial, ?_⟩
    conv => whnf
    generalize hd2 : dec d1 (EnumVal.ws vals) = d2
    refine ifP_of (fun h => ?_) (fun h => ?_)
    · have h := dec_lt hd2 (of_decide_eq_true h) (by omega)
      conv => whnf
      exact ⟨congrArg (fun x : Int => [V.sc (.int .i64 x)]) (show (-1 : Int) = dec l (name.size + EnumVal.ws vals) from (dec_neg (by omega)).symm), rfl⟩
    · have g2 := dec_ge hd2 (of_decide_eq_false h)
      conv => whnf
      exact ⟨congrArg (fun x : Int => [V.sc (.int .i64 x)]) (show d2 = dec l (name.size + EnumVal.ws vals) by rw [dec_pos (by omega)]; omega), rfl⟩
theorem szMessage_ok (a : Message) (l : Int) (hb_name : a.name.size ≤ 9223372036854775807) (H_fields : ∀ l, 0 ≤ l → l ≤ 1048576 → Fn Try.prog [] 167 [.sh 6 (Field.css a.fields), .sc (.int .i64 l)] [] (ret [.sc (.int .i64 (dec l (Field.ws a.fields)))] [])) (H_oneofs : ∀ l, 0 ≤ l → l ≤ 1048576 → Fn Try.prog [] 168 [.sh 1 (strC a.oneofs), .sc (.int .i64 l)] [] (ret [.sc (.int .i64 (dec l (strW a.oneofs)))] [])) (H_reserved : ∀ l, 0 ≤ l → l ≤ 1048576 → Fn Try.prog [] 169 [.sh 1 (intC a.reserved), .sc (.int .i64 l)] [] (ret [.sc (.int .i64 (dec l (a.reserved.length)))] [])) (H_messages : ∀ l, 0 ≤ l → l ≤ 1048576 → Fn Try.prog [] 36 [.sh 7 (Message.css a.messages), .sc (.int .i64 l)] [] (ret [.sc (.int .i64 (dec l (Message.ws a.messages)))] [])) (H_enums : ∀ l, 0 ≤ l → l ≤ 1048576 → Fn Try.prog [] 37 [.sh 3 (Enum.css a.enums), .sc (.int .i64 l)] [] (ret [.sc (.int .i64 (dec l (Enum.ws a.enums)))] [])) (h0 : 0 ≤ l) (h1 : l ≤ 1048576) : Fn Try.prog [] 96 [.agg a.acells, .sc (.int .i64 l)] [] (ret [.sc (.int .i64 (dec l a.w))] []) := by
  obtain ⟨name, fields, oneofs, reserved, messages, enums, pos⟩ := a
  refine fn_of Try.func96 (by kernel_rfl) ?_
  have hb_name : name.size ≤ 9223372036854775807 := hb_name
  conv => whnf
  generalize hd1 : IntKind.i64.wrap (l - ↑name.size) = d1
  have e1 : d1 = l - ↑name.size := hd1.symm.trans (wrap64 (by omega) (by omega))
  refine ifP_of (fun h => ?_) (fun h => ?_)
  · have h : d1 < 0 := of_decide_eq_true h
    conv => whnf
    exact ⟨congrArg (fun x : Int => [V.sc (.int .i64 x)]) (show (-1 : Int) = dec l (name.size + Field.ws fields + strW oneofs + reserved.length + Message.ws messages + Enum.ws enums) from (dec_neg (by omega)).symm), rfl⟩
  · have g1 : ¬ d1 < 0 := of_decide_eq_false h
    conv => whnf
    refine Fn.use (H_fields d1 (by omega) (by omega)) ?_
    conv => whnf
    refine ⟨trivial, ?_⟩
    conv => whnf
    generalize hd2 : dec d1 (Field.ws fields) = d2
    refine ifP_of (fun h => ?_) (fun h => ?_)
    · have h := dec_lt hd2 (of_decide_eq_true h) (by omega)
      conv => whnf
      exact ⟨congrArg (fun x : Int => [V.sc (.int .i64 x)]) (show (-1 : Int) = dec l (name.size + Field.ws fields + strW oneofs + reserved.length + Message.ws messages + Enum.ws enums) from (dec_neg (by omega)).symm), rfl⟩
    · have g2 := dec_ge hd2 (of_decide_eq_false h)
      conv => whnf
      refine Fn.use (H_oneofs d2 (by omega) (by omega)) ?_
      conv => whnf
      refine ⟨trivial, ?_⟩
      conv => whnf
      generalize hd3 : dec d2 (strW oneofs) = d3
      refine ifP_of (fun h => ?_) (fun h => ?_)
      · have h := dec_lt hd3 (of_decide_eq_true h) (by omega)
        conv => whnf
        exact ⟨congrArg (fun x : Int => [V.sc (.int .i64 x)]) (show (-1 : Int) = dec l (name.size + Field.ws fields + strW oneofs + reserved.length + Message.ws messages + Enum.ws enums) from (dec_neg (by omega)).symm), rfl⟩
      · have g3 := dec_ge hd3 (of_decide_eq_false h)
        conv => whnf
        refine Fn.use (H_reserved d3 (by omega) (by omega)) ?_
        conv => whnf
        refine ⟨trivial, ?_⟩
        conv => whnf
        generalize hd4 : dec d3 (reserved.length) = d4
        refine ifP_of (fun h => ?_) (fun h => ?_)
        · have h := dec_lt hd4 (of_decide_eq_true h) (by omega)
          conv => whnf
          exact ⟨congrArg (fun x : Int => [V.sc (.int .i64 x)]) (show (-1 : Int) = dec l (name.size + Field.ws fields + strW oneofs + reserved.length + Message.ws messages + Enum.ws enums) from (dec_neg (by omega)).symm), rfl⟩
        · have g4 := dec_ge hd4 (of_decide_eq_false h)
          conv => whnf
          refine Fn.use (H_messages d4 (by omega) (by omega)) ?_
          conv => whnf
          refine ⟨trivial, ?_⟩
          conv => whnf
          generalize hd5 : dec d4 (Message.ws messages) = d5
          refine ifP_of (fun h => ?_) (fun h => ?_)
          · have h := dec_lt hd5 (of_decide_eq_true h) (by omega)
            conv => whnf
            exact ⟨congrArg (fun x : Int => [V.sc (.int .i64 x)]) (show (-1 : Int) = dec l (name.size + Field.ws fields + strW oneofs + reserved.length + Message.ws messages + Enum.ws enums) from (dec_neg (by omega)).symm), rfl⟩
          · have g5 := dec_ge hd5 (of_decide_eq_false h)
            conv => whnf
            refine Fn.use (H_enums d5 (by omega) (by omega)) ?_
            conv => whnf
            refine ⟨trivial, ?_⟩
            conv => whnf
            generalize hd6 : dec d5 (Enum.ws enums) = d6
            refine ifP_of (fun h => ?_) (fun h => ?_)
            · have h := dec_lt hd6 (of_decide_eq_true h) (by omega)
              conv => whnf
              exact ⟨congrArg (fun x : Int => [V.sc (.int .i64 x)]) (show (-1 : Int) = dec l (name.size + Field.ws fields + strW oneofs + reserved.length + Message.ws messages + Enum.ws enums) from (dec_neg (by omega)).symm), rfl⟩
            · have g6 := dec_ge hd6 (of_decide_eq_false h)
              conv => whnf
              exact ⟨congrArg (fun x : Int => [V.sc (.int .i64 x)]) (show d6 = dec l (name.size + Field.ws fields + strW oneofs + reserved.length + Message.ws messages + Enum.ws enums) by rw [dec_pos (by omega)]; omega), rfl⟩
theorem szFile_ok (a : File) (l : Int) (H_messages : ∀ l, 0 ≤ l → l ≤ 1048576 → Fn Try.prog [] 36 [.sh 7 (Message.css a.messages), .sc (.int .i64 l)] [] (ret [.sc (.int .i64 (dec l (Message.ws a.messages)))] [])) (H_enums : ∀ l, 0 ≤ l → l ≤ 1048576 → Fn Try.prog [] 37 [.sh 3 (Enum.css a.enums), .sc (.int .i64 l)] [] (ret [.sc (.int .i64 (dec l (Enum.ws a.enums)))] [])) (h0 : 0 ≤ l) (h1 : l ≤ 1048576) : Fn Try.prog [] 9 [.agg a.acells, .sc (.int .i64 l)] [] (ret [.sc (.int .i64 (dec l a.w))] []) := by
  obtain ⟨messages, enums⟩ := a
  refine fn_of Try.func9 (by kernel_rfl) ?_
  conv => whnf
  refine Fn.use (H_messages l (by omega) (by omega)) ?_
  conv => whnf
  refine ⟨trivial, ?_⟩
  conv => whnf
  generalize hd1 : dec l (Message.ws messages) = d1
  refine ifP_of (fun h => ?_) (fun h => ?_)
  · have h := dec_lt hd1 (of_decide_eq_true h) (by omega)
    conv => whnf
    exact ⟨congrArg (fun x : Int => [V.sc (.int .i64 x)]) (show (-1 : Int) = dec l (Message.ws messages + Enum.ws enums) from (dec_neg (by omega)).symm), rfl⟩
  · have g1 := dec_ge hd1 (of_decide_eq_false h)
    conv => whnf
    refine Fn.use (H_enums d1 (by omega) (by omega)) ?_
    conv => whnf
    refine ⟨trivial, ?_⟩
    conv => whnf
    generalize hd2 : dec d1 (Enum.ws enums) = d2
    refine ifP_of (fun h => ?_) (fun h => ?_)
    · have h := dec_lt hd2 (of_decide_eq_true h) (by omega)
      conv => whnf
      exact ⟨congrArg (fun x : Int => [V.sc (.int .i64 x)]) (show (-1 : Int) = dec l (Message.ws messages + Enum.ws enums) from (dec_neg (by omega)).symm), rfl⟩
    · have g2 := dec_ge hd2 (of_decide_eq_false h)
      conv => whnf
      exact ⟨congrArg (fun x : Int => [V.sc (.int .i64 x)]) (show d2 = dec l (Message.ws messages + Enum.ws enums) by rw [dec_pos (by omega)]; omega), rfl⟩
end Ev
open Go Ev
open Go.Proofs
set_option maxRecDepth 100000
set_option maxHeartbeats 4000000
set_option linter.unusedVariables false
namespace Ev
theorem toStringS_ok (xs : List ByteArray) (hb : xs.length ≤ 1048576)  : Fn Try.prog [] 172 [.sh 1 (strC xs)] [] (ret [.own true 1 (strC xs)] []) := by
  refine fn_of Try.func172 (by kernel_rfl) ?_
  have hlm := strC_len xs
  conv => whnf
  refine chkP_of ?_ ?_
  · rw [hlm]; simp; omega
  conv => whnf
  refine loop_of (A := Nat) (fun i => ⟨[(0, .sh 1 (strC xs)), (3, .hdr 0 []), (4, .sc (.int .i64 i))], [(0, some ⟨fillL (strC xs) [.sc (.string .empty)] i, true, 1, false⟩)], 1, 22, 0⟩) (fun i => xs.length - i) (fun i => i ≤ xs.length) 0 rfl (Nat.zero_le _) ?_
  intro i hi X ih
  conv => whnf
  refine ifP_of (fun h1 => ?_) (fun h1 => ?_)
  · have hi1 : i < xs.length := by rw [hlm] at h1; have := of_decide_eq_true h1; omega
    have hg := strC_get hi1
    conv => whnf
    try (refine chkP_of (by simp; done) ?_; conv => whnf)
    refine optP_of hg ?_
    conv => whnf
    try (refine chkP_of (by simp; done) ?_; conv => whnf)
    refine optP_of (fill_get (by rw [hlm]; exact hi1)) ?_
    conv => whnf
    refine optP_of (fill_get (by rw [hlm]; exact hi1)) ?_
    conv => whnf
    have hw : IntKind.i64.wrap ((i : Int) + 1) = ((i + 1 : Nat) : Int) := by rw [wrap64 (by omega) (by omega)]; omega
    have h2 := ih (i+1) (by omega) (by omega)
    rw [← fill_set hg, ← hw] at h2
    exact h2
  · have hi1 : ¬ i < xs.length := by rw [hlm] at h1; have := of_decide_eq_false h1; omega
    conv => whnf
    exact ⟨congrArg (fun es => [V.own true 1 es]) (fill_end (by rw [hlm]; omega)), rfl⟩
theorem toIntS_ok (xs : List Int) (hb : xs.length ≤ 1048576)  : Fn Try.prog [] 173 [.sh 1 (intC xs)] [] (ret [.own true 1 (intC xs)] []) := by
  refine fn_of Try.func173 (by kernel_rfl) ?_
  have hlm := intC_len xs
  conv => whnf
  refine chkP_of ?_ ?_
  · rw [hlm]; simp; omega
  conv => whnf
  refine loop_of (A := Nat) (fun i => ⟨[(0, .sh 1 (intC xs)), (3, .hdr 0 []), (4, .sc (.int .i64 i))], [(0, some ⟨fillL (intC xs) [.sc (.int .i64 0)] i, true, 1, false⟩)], 1, 22, 0⟩) (fun i => xs.length - i) (fun i => i ≤ xs.length) 0 rfl (Nat.zero_le _) ?_
  intro i hi X ih
  conv => whnf
  refine ifP_of (fun h1 => ?_) (fun h1 => ?_)
  · have hi1 : i < xs.length := by rw [hlm] at h1; have := of_decide_eq_true h1; omega
    have hg := intC_get hi1
    conv => whnf
    try (refine chkP_of (by simp; done) ?_; conv => whnf)
    refine optP_of hg ?_
    conv => whnf
    try (refine chkP_of (by simp; done) ?_; conv => whnf)
    refine optP_of (fill_get (by rw [hlm]; exact hi1)) ?_
    conv => whnf
    refine optP_of (fill_get (by rw [hlm]; exact hi1)) ?_
    conv => whnf
    have hw : IntKind.i64.wrap ((i : Int) + 1) = ((i + 1 : Nat) : Int) := by rw [wrap64 (by omega) (by omega)]; omega
    have h2 := ih (i+1) (by omega) (by omega)
    rw [← fill_set hg, ← hw] at h2
    exact h2
  · have hi1 : ¬ i < xs.length := by rw [hlm] at h1; have := of_decide_eq_false h1; omega
    conv => whnf
    exact ⟨congrArg (fun es => [V.own true 1 es]) (fill_end (by rw [hlm]; omega)), rfl⟩
theorem toEnumValS_ok (xs : List EnumVal) (hb : xs.length ≤ 1048576) (H : ∀ x ∈ xs, Fn Try.prog [] 200 [.agg x.acells] [] (ret [.agg x.ocells] [])) : Fn Try.prog [] 174 [.sh 3 (EnumVal.css xs)] [] (ret [.own true 3 (EnumVal.css xs)] []) := by
  refine fn_of Try.func174 (by kernel_rfl) ?_
  have hlm := EnumVal.css_len xs
  conv => whnf
  refine chkP_of ?_ ?_
  · rw [hlm]; simp; omega
  conv => whnf
  refine loop_of (A := Nat) (fun i => ⟨[(0, .sh 3 (EnumVal.css xs)), (3, .hdr 0 []), (4, .sc (.int .i64 i))], [(0, some ⟨fillL (EnumVal.css xs) [.sc (.string .empty), .sc (.int .i64 0), .sc (.int .i64 0)] i, true, 3, false⟩)], 1, 23, 0⟩) (fun i => xs.length - i) (fun i => i ≤ xs.length) 0 rfl (Nat.zero_le _) ?_
  intro i hi X ih
  conv => whnf
  refine ifP_of (fun h1 => ?_) (fun h1 => ?_)
  · have hi1 : i < xs.length := by rw [hlm] at h1; have := of_decide_eq_true h1; omega
    have hg := EnumVal.css_get hi1
    conv => whnf
    try (refine chkP_of (by simp; done) ?_; conv => whnf)
    refine optP_of hg ?_
    conv => whnf
    refine Fn.use (H xs[i] (List.getElem_mem hi1)) ?_
    conv => whnf
    refine ⟨trivial, ?_⟩
    conv => whnf
    try (refine chkP_of (by simp; done) ?_; conv => whnf)
    refine optP_of (fill_get (by rw [hlm]; exact hi1)) ?_
    conv => whnf
    refine optP_of (fill_get (by rw [hlm]; exact hi1)) ?_
    conv => whnf
    have hw : IntKind.i64.wrap ((i : Int) + 1) = ((i + 1 : Nat) : Int) := by rw [wrap64 (by omega) (by omega)]; omega
    have h2 := ih (i+1) (by omega) (by omega)
    rw [← fill_set hg, ← hw] at h2
    exact h2
  · have hi1 : ¬ i < xs.length := by rw [hlm] at h1; have := of_decide_eq_false h1; omega
    conv => whnf
    exact ⟨congrArg (fun es => [V.own true 3 es]) (fill_end (by rw [hlm]; omega)), rfl⟩
theorem toFieldS_ok (xs : List Field) (hb : xs.length ≤ 1048576) (H : ∀ x ∈ xs, Fn Try.prog [] 199 [.agg x.acells] [] (ret [.agg x.ocells] [])) : Fn Try.prog [] 171 [.sh 6 (Field.css xs)] [] (ret [.own true 6 (Field.css xs)] []) := by
  refine fn_of Try.func171 (by kernel_rfl) ?_
  have hlm := Field.css_len xs
  conv => whnf
  refine chkP_of ?_ ?_
  · rw [hlm]; simp; omega
  conv => whnf
  refine loop_of (A := Nat) (fun i => ⟨[(0, .sh 6 (Field.css xs)), (3, .hdr 0 []), (4, .sc (.int .i64 i))], [(0, some ⟨fillL (Field.css xs) [.sc (.string .empty), .sc (.string .empty), .sc (.int .i64 0), .sc (.bool false), .sc (.string .empty), .sc (.int .i64 0)] i, true, 6, false⟩)], 1, 23, 0⟩) (fun i => xs.length - i) (fun i => i ≤ xs.length) 0 rfl (Nat.zero_le _) ?_
  intro i hi X ih
  conv => whnf
  refine ifP_of (fun h1 => ?_) (fun h1 => ?_)
  · have hi1 : i < xs.length := by rw [hlm] at h1; have := of_decide_eq_true h1; omega
    have hg := Field.css_get hi1
    conv => whnf
    try (refine chkP_of (by simp; done) ?_; conv => whnf)
    refine optP_of hg ?_
    conv => whnf
    refine Fn.use (H xs[i] (List.getElem_mem hi1)) ?_
    conv => whnf
    refine ⟨trivial, ?_⟩
    conv => whnf
    try (refine chkP_of (by simp; done) ?_; conv => whnf)
    refine optP_of (fill_get (by rw [hlm]; exact hi1)) ?_
    conv => whnf
    refine optP_of (fill_get (by rw [hlm]; exact hi1)) ?_
    conv => whnf
    have hw : IntKind.i64.wrap ((i : Int) + 1) = ((i + 1 : Nat) : Int) := by rw [wrap64 (by omega) (by omega)]; omega
    have h2 := ih (i+1) (by omega) (by omega)
    rw [← fill_set hg, ← hw] at h2
    exact h2
  · have hi1 : ¬ i < xs.length := by rw [hlm] at h1; have := of_decide_eq_false h1; omega
    conv => whnf
    exact ⟨congrArg (fun es => [V.own true 6 es]) (fill_end (by rw [hlm]; omega)), rfl⟩
theorem toEnumS_ok (xs : List Enum) (hb : xs.length ≤ 1048576) (H : ∀ x ∈ xs, Fn Try.prog [] 99 [.agg x.acells] [] (ret [.agg x.ocells] [])) : Fn Try.prog [] 41 [.sh 3 (Enum.css xs)] [] (ret [.own true 3 (Enum.css xs)] []) := by
  refine fn_of Try.func41 (by kernel_rfl) ?_
  have hlm := Enum.css_len xs
  conv => whnf
  refine chkP_of ?_ ?_
  · rw [hlm]; simp; omega
  conv => whnf
  refine loop_of (A := Nat) (fun i => ⟨[(0, .sh 3 (Enum.css xs)), (3, .hdr 0 []), (4, .sc (.int .i64 i))], [(0, some ⟨fillL (Enum.css xs) [.sc (.string .empty), .sl 3 [], .sc (.int .i64 0)] i, true, 3, false⟩)], 1, 23, 0⟩) (fun i => xs.length - i) (fun i => i ≤ xs.length) 0 rfl (Nat.zero_le _) ?_
  intro i hi X ih
  conv => whnf
  refine ifP_of (fun h1 => ?_) (fun h1 => ?_)
  · have hi1 : i < xs.length := by rw [hlm] at h1; have := of_decide_eq_true h1; omega
    have hg := Enum.css_get hi1
    conv => whnf
    try (refine chkP_of (by simp; done) ?_; conv => whnf)
    refine optP_of hg ?_
    conv => whnf
    refine Fn.use (H xs[i] (List.getElem_mem hi1)) ?_
    conv => whnf
    refine ⟨trivial, ?_⟩
    conv => whnf
    try (refine chkP_of (by simp; done) ?_; conv => whnf)
    refine optP_of (fill_get (by rw [hlm]; exact hi1)) ?_
    conv => whnf
    refine optP_of (fill_get (by rw [hlm]; exact hi1)) ?_
    conv => whnf
    have hw : IntKind.i64.wrap ((i : Int) + 1) = ((i + 1 : Nat) : Int) := by rw [wrap64 (by omega) (by omega)]; omega
    have h2 := ih (i+1) (by omega) (by omega)
    rw [← fill_set hg, ← hw] at h2
    exact h2
  · have hi1 : ¬ i < xs.length := by rw [hlm] at h1; have := of_decide_eq_false h1; omega
    conv => whnf
    exact ⟨congrArg (fun es => [V.own true 3 es]) (fill_end (by rw [hlm]; omega)), rfl⟩
theorem toMessageS_ok (xs : List Message) (hb : xs.length ≤ 1048576) (H : ∀ x ∈ xs, Fn Try.prog [] 98 [.agg x.acells] [] (ret [.agg x.ocells] [])) : Fn Try.prog [] 40 [.sh 7 (Message.css xs)] [] (ret [.own true 7 (Message.css xs)] []) := by
  refine fn_of Try.func40 (by kernel_rfl) ?_
  have hlm := Message.css_len xs
  conv => whnf
  refine chkP_of ?_ ?_
  · rw [hlm]; simp; omega
  conv => whnf
  refine loop_of (A := Nat) (fun i => ⟨[(0, .sh 7 (Message.css xs)), (3, .hdr 0 []), (4, .sc (.int .i64 i))], [(0, some ⟨fillL (Message.css xs) [.sc (.string .empty), .sl 6 [], .sl 1 [], .sl 1 [], .sl 7 [], .sl 3 [], .sc (.int .i64 0)] i, true, 7, false⟩)], 1, 23, 0⟩) (fun i => xs.length - i) (fun i => i ≤ xs.length) 0 rfl (Nat.zero_le _) ?_
  intro i hi X ih
  conv => whnf
  refine ifP_of (fun h1 => ?_) (fun h1 => ?_)
  · have hi1 : i < xs.length := by rw [hlm] at h1; have := of_decide_eq_true h1; omega
    have hg := Message.css_get hi1
    conv => whnf
    try (refine chkP_of (by simp; done) ?_; conv => whnf)
    refine optP_of hg ?_
    conv => whnf
    refine Fn.use (H xs[i] (List.getElem_mem hi1)) ?_
    conv => whnf
    refine ⟨trivial, ?_⟩
    conv => whnf
    try (refine chkP_of (by simp; done) ?_; conv => whnf)
    refine optP_of (fill_get (by rw [hlm]; exact hi1)) ?_
    conv => whnf
    refine optP_of (fill_get (by rw [hlm]; exact hi1)) ?_
    conv => whnf
    have hw : IntKind.i64.wrap ((i : Int) + 1) = ((i + 1 : Nat) : Int) := by rw [wrap64 (by omega) (by omega)]; omega
    have h2 := ih (i+1) (by omega) (by omega)
    rw [← fill_set hg, ← hw] at h2
    exact h2
  · have hi1 : ¬ i < xs.length := by rw [hlm] at h1; have := of_decide_eq_false h1; omega
    conv => whnf
    exact ⟨congrArg (fun es => [V.own true 7 es]) (fill_end (by rw [hlm]; omega)), rfl⟩
theorem toEnumVal_ok (a : EnumVal)  : Fn Try.prog [] 200 [.agg a.acells] [] (ret [.agg a.ocells] []) := by
  obtain ⟨name, num, pos⟩ := a
  refine fn_of Try.func200 (by kernel_rfl) ?_
  conv => whnf
  exact ⟨rfl, rfl⟩
theorem toField_ok (a : Field)  : Fn Try.prog [] 199 [.agg a.acells] [] (ret [.agg a.ocells] []) := by
  obtain ⟨name, ty, num, rep, oneof, pos⟩ := a
  refine fn_of Try.func199 (by kernel_rfl) ?_
  conv => whnf
  exact ⟨rfl, rfl⟩
theorem toEnum_ok (a : Enum) (H_vals : Fn Try.prog [] 174 [.sh 3 (EnumVal.css a.vals)] [] (ret [.own true 3 (EnumVal.css a.vals)] [])) : Fn Try.prog [] 99 [.agg a.acells] [] (ret [.agg a.ocells] []) := by
  obtain ⟨name, vals, pos⟩ := a
  refine fn_of Try.func99 (by kernel_rfl) ?_
  conv => whnf
  refine Fn.use H_vals ?_
  conv => whnf
  refine ⟨trivial, ?_⟩
  conv => whnf
  exact ⟨rfl, rfl⟩
theorem toMessage_ok (a : Message) (H_fields : Fn Try.prog [] 171 [.sh 6 (Field.css a.fields)] [] (ret [.own true 6 (Field.css a.fields)] [])) (H_oneofs : Fn Try.prog [] 172 [.sh 1 (strC a.oneofs)] [] (ret [.own true 1 (strC a.oneofs)] [])) (H_reserved : Fn Try.prog [] 173 [.sh 1 (intC a.reserved)] [] (ret [.own true 1 (intC a.reserved)] [])) (H_messages : Fn Try.prog [] 40 [.sh 7 (Message.css a.messages)] [] (ret [.own true 7 (Message.css a.messages)] [])) (H_enums : Fn Try.prog [] 41 [.sh 3 (Enum.css a.enums)] [] (ret [.own true 3 (Enum.css a.enums)] [])) : Fn Try.prog [] 98 [.agg a.acells] [] (ret [.agg a.ocells] []) := by
  obtain ⟨name, fields, oneofs, reserved, messages, enums, pos⟩ := a
  refine fn_of Try.func98 (by kernel_rfl) ?_
  conv => whnf
  refine Fn.use H_fields ?_
  conv => whnf
  refine ⟨trivial, ?_⟩
  conv => whnf
  refine Fn.use H_oneofs ?_
  conv => whnf
  refine ⟨trivial, ?_⟩
  conv => whnf
  refine Fn.use H_reserved ?_
  conv => whnf
  refine ⟨trivial, ?_⟩
  conv => whnf
  refine Fn.use H_messages ?_
  conv => whnf
  refine ⟨trivial, ?_⟩
  conv => whnf
  refine Fn.use H_enums ?_
  conv => whnf
  refine ⟨trivial, ?_⟩
  conv => whnf
  exact ⟨rfl, rfl⟩
theorem toFile_ok (a : File) (H_messages : Fn Try.prog [] 40 [.sh 7 (Message.css a.messages)] [] (ret [.own true 7 (Message.css a.messages)] [])) (H_enums : Fn Try.prog [] 41 [.sh 3 (Enum.css a.enums)] [] (ret [.own true 3 (Enum.css a.enums)] [])) : Fn Try.prog [] 11 [.agg a.acells] [] (ret [.agg a.ocells] []) := by
  obtain ⟨messages, enums⟩ := a
  refine fn_of Try.func11 (by kernel_rfl) ?_
  conv => whnf
  refine Fn.use H_messages ?_
  conv => whnf
  refine ⟨trivial, ?_⟩
  conv => whnf
  refine Fn.use H_enums ?_
  conv => whnf
  refine ⟨trivial, ?_⟩
  conv => whnf
  exact ⟨rfl, rfl⟩
theorem eqStringS_ok (xs ys : List ByteArray) (hb : xs.length ≤ 1048576)  : Fn Try.prog [] 176 [.sh 1 (strC xs), .sh 1 (strC ys)] [] (ret [.sc (.bool (eqb xs ys))] []) := by
  refine fn_of Try.func176 (by kernel_rfl) ?_
  have hlx := strC_len xs
  have hly := strC_len ys
  conv => whnf
  rw [hlx, hly]
  refine ifP_of (fun h => ?_) (fun h => ?_)
  · have hne : ¬ xs = ys := fun e => by rw [e] at h; simp at h
    conv => whnf
    exact ⟨congrArg (fun x : Bool => [V.sc (.bool x)]) (eqb_no hne).symm, rfl⟩
  · have hlen : xs.length = ys.length := by
      simp only [bne_eq_false_iff_eq] at h; omega
    conv => whnf
    refine loop_of (A := Nat) (fun i => ⟨[(0, .sh 1 (strC xs)), (1, .sh 1 (strC ys)), (5, .sc (.int .i64 i))], [], 0, 26, 0⟩) (fun i => xs.length - i) (fun i => i ≤ xs.length ∧ eqb (xs.drop i) (ys.drop i) = eqb xs ys) 0 rfl ⟨Nat.zero_le _, by rw [List.drop_zero, List.drop_zero]⟩ ?_
    intro i ⟨hi, hout⟩ X ih
    conv => whnf
    refine ifP_of (fun h2 => ?_) (fun h2 => ?_)
    · have hi1 : i < xs.length := by rw [hlx] at h2; have := of_decide_eq_true h2; omega
      have hi2 : i < ys.length := by omega
      have hx : xs.drop i = xs[i] :: xs.drop (i+1) := List.drop_eq_getElem_cons hi1
      have hy : ys.drop i = ys[i] :: ys.drop (i+1) := List.drop_eq_getElem_cons hi2
      conv => whnf
      try (refine chkP_of (by simp; done) ?_; conv => whnf)
      refine optP_of (strC_get hi1) ?_
      conv => whnf
      try (refine chkP_of (by simp; done) ?_; conv => whnf)
      refine optP_of (strC_get hi2) ?_
      conv => whnf
      refine ifP_of (fun h3 => ?_) (fun h3 => ?_)
      · have h3 : ¬ xs[i] = ys[i] := by simpa [bytes_eq] using h3
        conv => whnf
        exact ⟨congrArg (fun x : Bool => [V.sc (.bool x)]) (show false = eqb xs ys by rw [← hout, hx, hy, eqb_no (fun e => h3 (List.cons.inj e).1)]), rfl⟩
      · have h3 : xs[i] = ys[i] := by simpa [bytes_eq] using h3
        conv => whnf
        have hw : IntKind.i64.wrap ((i : Int) + 1) = ((i + 1 : Nat) : Int) := by rw [wrap64 (by omega) (by omega)]; omega
        have h5 := ih (i+1) ⟨by omega, by rw [← hout, hx, hy, eqb_cons h3]⟩ (by omega)
        rw [← hw] at h5
        exact h5
    · have hi1 : ¬ i < xs.length := by rw [hlx] at h2; have := of_decide_eq_false h2; omega
      conv => whnf
      exact ⟨congrArg (fun x : Bool => [V.sc (.bool x)]) (show true = eqb xs ys by rw [← hout, List.drop_eq_nil_of_le (by omega), List.drop_eq_nil_of_le (by omega), eqb_yes rfl]), rfl⟩
theorem eqIntS_ok (xs ys : List Int) (hb : xs.length ≤ 1048576)  : Fn Try.prog [] 177 [.sh 1 (intC xs), .sh 1 (intC ys)] [] (ret [.sc (.bool (eqb xs ys))] []) := by
  refine fn_of Try.func177 (by kernel_rfl) ?_
  have hlx := intC_len xs
  have hly := intC_len ys
  conv => whnf
  rw [hlx, hly]
  refine ifP_of (fun h => ?_) (fun h => ?_)
  · have hne : ¬ xs = ys := fun e => by rw [e] at h; simp at h
    conv => whnf
    exact ⟨congrArg (fun x : Bool => [V.sc (.bool x)]) (eqb_no hne).symm, rfl⟩
  · have hlen : xs.length = ys.length := by
      simp only [bne_eq_false_iff_eq] at h; omega
    conv => whnf
    refine loop_of (A := Nat) (fun i => ⟨[(0, .sh 1 (intC xs)), (1, .sh 1 (intC ys)), (5, .sc (.int .i64 i))], [], 0, 26, 0⟩) (fun i => xs.length - i) (fun i => i ≤ xs.length ∧ eqb (xs.drop i) (ys.drop i) = eqb xs ys) 0 rfl ⟨Nat.zero_le _, by rw [List.drop_zero, List.drop_zero]⟩ ?_
    intro i ⟨hi, hout⟩ X ih
    conv => whnf
    refine ifP_of (fun h2 => ?_) (fun h2 => ?_)
    · have hi1 : i < xs.length := by rw [hlx] at h2; have := of_decide_eq_true h2; omega
      have hi2 : i < ys.length := by omega
      have hx : xs.drop i = xs[i] :: xs.drop (i+1) := List.drop_eq_getElem_cons hi1
      have hy : ys.drop i = ys[i] :: ys.drop (i+1) := List.drop_eq_getElem_cons hi2
      conv => whnf
      try (refine chkP_of (by simp; done) ?_; conv => whnf)
      refine optP_of (intC_get hi1) ?_
      conv => whnf
      try (refine chkP_of (by simp; done) ?_; conv => whnf)
      refine optP_of (intC_get hi2) ?_
      conv => whnf
      refine ifP_of (fun h3 => ?_) (fun h3 => ?_)
      · have h3 : ¬ xs[i] = ys[i] := by simpa [bytes_eq] using h3
        conv => whnf
        exact ⟨congrArg (fun x : Bool => [V.sc (.bool x)]) (show false = eqb xs ys by rw [← hout, hx, hy, eqb_no (fun e => h3 (List.cons.inj e).1)]), rfl⟩
      · have h3 : xs[i] = ys[i] := by simpa [bytes_eq] using h3
        conv => whnf
        have hw : IntKind.i64.wrap ((i : Int) + 1) = ((i + 1 : Nat) : Int) := by rw [wrap64 (by omega) (by omega)]; omega
        have h5 := ih (i+1) ⟨by omega, by rw [← hout, hx, hy, eqb_cons h3]⟩ (by omega)
        rw [← hw] at h5
        exact h5
    · have hi1 : ¬ i < xs.length := by rw [hlx] at h2; have := of_decide_eq_false h2; omega
      conv => whnf
      exact ⟨congrArg (fun x : Bool => [V.sc (.bool x)]) (show true = eqb xs ys by rw [← hout, List.drop_eq_nil_of_le (by omega), List.drop_eq_nil_of_le (by omega), eqb_yes rfl]), rfl⟩
theorem eqEnumValS_ok (xs ys : List EnumVal) (hb : xs.length ≤ 1048576) (H : ∀ x ∈ xs, ∀ y ∈ ys, Fn Try.prog [] 202 [.agg x.acells, .agg y.acells] [] (ret [.sc (.bool (eqb x y))] [])) : Fn Try.prog [] 178 [.sh 3 (EnumVal.css xs), .sh 3 (EnumVal.css ys)] [] (ret [.sc (.bool (eqb xs ys))] []) := by
  refine fn_of Try.func178 (by kernel_rfl) ?_
  have hlx := EnumVal.css_len xs
  have hly := EnumVal.css_len ys
  conv => whnf
  rw [hlx, hly]
  refine ifP_of (fun h => ?_) (fun h => ?_)
  · have hne : ¬ xs = ys := fun e => by rw [e] at h; simp at h
    conv => whnf
    exact ⟨congrArg (fun x : Bool => [V.sc (.bool x)]) (eqb_no hne).symm, rfl⟩
  · have hlen : xs.length = ys.length := by
      simp only [bne_eq_false_iff_eq] at h; omega
    conv => whnf
    refine loop_of (A := Nat) (fun i => ⟨[(0, .sh 3 (EnumVal.css xs)), (1, .sh 3 (EnumVal.css ys)), (5, .sc (.int .i64 i))], [], 0, 27, 0⟩) (fun i => xs.length - i) (fun i => i ≤ xs.length ∧ eqb (xs.drop i) (ys.drop i) = eqb xs ys) 0 rfl ⟨Nat.zero_le _, by rw [List.drop_zero, List.drop_zero]⟩ ?_
    intro i ⟨hi, hout⟩ X ih
    conv => whnf
    refine ifP_of (fun h2 => ?_) (fun h2 => ?_)
    · have hi1 : i < xs.length := by rw [hlx] at h2; have := of_decide_eq_true h2; omega
      have hi2 : i < ys.length := by omega
      have hx : xs.drop i = xs[i] :: xs.drop (i+1) := List.drop_eq_getElem_cons hi1
      have hy : ys.drop i = ys[i] :: ys.drop (i+1) := List.drop_eq_getElem_cons hi2
      conv => whnf
      try (refine chkP_of (by simp; done) ?_; conv => whnf)
      refine optP_of (EnumVal.css_get hi1) ?_
      conv => whnf
      try (refine chkP_of (by simp; done) ?_; conv => whnf)
      refine optP_of (EnumVal.css_get hi2) ?_
      conv => whnf
      refine Fn.use (H xs[i] (List.getElem_mem hi1) ys[i] (List.getElem_mem hi2)) ?_
      conv => whnf
      refine ⟨trivial, ?_⟩
      conv => whnf
      refine ifP_of (fun h3 => ?_) (fun h3 => ?_)
      · have h3 : ¬ xs[i] = ys[i] := of_eqb_no (by simpa using h3)
        conv => whnf
        exact ⟨congrArg (fun x : Bool => [V.sc (.bool x)]) (show false = eqb xs ys by rw [← hout, hx, hy, eqb_no (fun e => h3 (List.cons.inj e).1)]), rfl⟩
      · have h3 : xs[i] = ys[i] := of_eqb (by simpa using h3)
        conv => whnf
        have hw : IntKind.i64.wrap ((i : Int) + 1) = ((i + 1 : Nat) : Int) := by rw [wrap64 (by omega) (by omega)]; omega
        have h5 := ih (i+1) ⟨by omega, by rw [← hout, hx, hy, eqb_cons h3]⟩ (by omega)
        rw [← hw] at h5
        exact h5
    · have hi1 : ¬ i < xs.length := by rw [hlx] at h2; have := of_decide_eq_false h2; omega
      conv => whnf
      exact ⟨congrArg (fun x : Bool => [V.sc (.bool x)]) (show true = eqb xs ys by rw [← hout, List.drop_eq_nil_of_le (by omega), List.drop_eq_nil_of_le (by omega), eqb_yes rfl]), rfl⟩
theorem eqFieldS_ok (xs ys : List Field) (hb : xs.length ≤ 1048576) (H : ∀ x ∈ xs, ∀ y ∈ ys, Fn Try.prog [] 201 [.agg x.acells, .agg y.acells] [] (ret [.sc (.bool (eqb x y))] [])) : Fn Try.prog [] 175 [.sh 6 (Field.css xs), .sh 6 (Field.css ys)] [] (ret [.sc (.bool (eqb xs ys))] []) := by
  refine fn_of Try.func175 (by kernel_rfl) ?_
  have hlx := Field.css_len xs
  have hly := Field.css_len ys
  conv => whnf
  rw [hlx, hly]
  refine ifP_of (fun h => ?_) (fun h => ?_)
  · have hne : ¬ xs = ys := fun e => by rw [e] at h; simp at h
    conv => whnf
    exact ⟨congrArg (fun x : Bool => [V.sc (.bool x)]) (eqb_no hne).symm, rfl⟩
  · have hlen : xs.length = ys.length := by
      simp only [bne_eq_false_iff_eq] at h; omega
    conv => whnf
    refine loop_of (A := Nat) (fun i => ⟨[(0, .sh 6 (Field.css xs)), (1, .sh 6 (Field.css ys)), (5, .sc (.int .i64 i))], [], 0, 27, 0⟩) (fun i => xs.length - i) (fun i => i ≤ xs.length ∧ eqb (xs.drop i) (ys.drop i) = eqb xs ys) 0 rfl ⟨Nat.zero_le _, by rw [List.drop_zero, List.drop_zero]⟩ ?_
    intro i ⟨hi, hout⟩ X ih
    conv => whnf
    refine ifP_of (fun h2 => ?_) (fun h2 => ?_)
    · have hi1 : i < xs.length := by rw [hlx] at h2; have := of_decide_eq_true h2; omega
      have hi2 : i < ys.length := by omega
      have hx : xs.drop i = xs[i] :: xs.drop (i+1) := List.drop_eq_getElem_cons hi1
      have hy : ys.drop i = ys[i] :: ys.drop (i+1) := List.drop_eq_getElem_cons hi2
      conv => whnf
      try (refine chkP_of (by simp; done) ?_; conv => whnf)
      refine optP_of (Field.css_get hi1) ?_
      conv => whnf
      try (refine chkP_of (by simp; done) ?_; conv => whnf)
      refine optP_of (Field.css_get hi2) ?_
      conv => whnf
      refine Fn.use (H xs[i] (List.getElem_mem hi1) ys[i] (List.getElem_mem hi2)) ?_
      conv => whnf
      refine ⟨trivial, ?_⟩
      conv => whnf
      refine ifP_of (fun h3 => ?_) (fun h3 => ?_)
      · have h3 : ¬ xs[i] = ys[i] := of_eqb_no (by simpa using h3)
        conv => whnf
        exact ⟨congrArg (fun x : Bool => [V.sc (.bool x)]) (show false = eqb xs ys by rw [← hout, hx, hy, eqb_no (fun e => h3 (List.cons.inj e).1)]), rfl⟩
      · have h3 : xs[i] = ys[i] := of_eqb (by simpa using h3)
        conv => whnf
        have hw : IntKind.i64.wrap ((i : Int) + 1) = ((i + 1 : Nat) : Int) := by rw [wrap64 (by omega) (by omega)]; omega
        have h5 := ih (i+1) ⟨by omega, by rw [← hout, hx, hy, eqb_cons h3]⟩ (by omega)
        rw [← hw] at h5
        exact h5
    · have hi1 : ¬ i < xs.length := by rw [hlx] at h2; have := of_decide_eq_false h2; omega
      conv => whnf
      exact ⟨congrArg (fun x : Bool => [V.sc (.bool x)]) (show true = eqb xs ys by rw [← hout, List.drop_eq_nil_of_le (by omega), List.drop_eq_nil_of_le (by omega), eqb_yes rfl]), rfl⟩
theorem eqEnumS_ok (xs ys : List Enum) (hb : xs.length ≤ 1048576) (H : ∀ x ∈ xs, ∀ y ∈ ys, Fn Try.prog [] 106 [.agg x.acells, .agg y.acells] [] (ret [.sc (.bool (eqb x y))] [])) : Fn Try.prog [] 47 [.sh 3 (Enum.css xs), .sh 3 (Enum.css ys)] [] (ret [.sc (.bool (eqb xs ys))] []) := by
  refine fn_of Try.func47 (by kernel_rfl) ?_
  have hlx := Enum.css_len xs
  have hly := Enum.css_len ys
  conv => whnf
  rw [hlx, hly]
  refine ifP_of (fun h => ?_) (fun h => ?_)
  · have hne : ¬ xs = ys := fun e => by rw [e] at h; simp at h
    conv => whnf
    exact ⟨congrArg (fun x : Bool => [V.sc (.bool x)]) (eqb_no hne).symm, rfl⟩
  · have hlen : xs.length = ys.length := by
      simp only [bne_eq_false_iff_eq] at h; omega
    conv => whnf
    refine loop_of (A := Nat) (fun i => ⟨[(0, .sh 3 (Enum.css xs)), (1, .sh 3 (Enum.css ys)), (5, .sc (.int .i64 i))], [], 0, 27, 0⟩) (fun i => xs.length - i) (fun i => i ≤ xs.length ∧ eqb (xs.drop i) (ys.drop i) = eqb xs ys) 0 rfl ⟨Nat.zero_le _, by rw [List.drop_zero, List.drop_zero]⟩ ?_
    intro i ⟨hi, hout⟩ X ih
    conv => whnf
    refine ifP_of (fun h2 => ?_) (fun h2 => ?_)
    · have hi1 : i < xs.length := by rw [hlx] at h2; have := of_decide_eq_true h2; omega
      have hi2 : i < ys.length := by omega
      have hx : xs.drop i = xs[i] :: xs.drop (i+1) := List.drop_eq_getElem_cons hi1
      have hy : ys.drop i = ys[i] :: ys.drop (i+1) := List.drop_eq_getElem_cons hi2
      conv => whnf
      try (refine chkP_of (by simp; done) ?_; conv => whnf)
      refine optP_of (Enum.css_get hi1) ?_
      conv => whnf
      try (refine chkP_of (by simp; done) ?_; conv => whnf)
      refine optP_of (Enum.css_get hi2) ?_
      conv => whnf
      refine Fn.use (H xs[i] (List.getElem_mem hi1) ys[i] (List.getElem_mem hi2)) ?_
      conv => whnf
      refine ⟨trivial, ?_⟩
      conv => whnf
      refine ifP_of (fun h3 => ?_) (fun h3 => ?_)
      · have h3 : ¬ xs[i] = ys[i] := of_eqb_no (by simpa using h3)
        conv => whnf
        exact ⟨congrArg (fun x : Bool => [V.sc (.bool x)]) (show false = eqb xs ys by rw [← hout, hx, hy, eqb_no (fun e => h3 (List.cons.inj e).1)]), rfl⟩
      · have h3 : xs[i] = ys[i] := of_eqb (by simpa using h3)
        conv => whnf
        have hw : IntKind.i64.wrap ((i : Int) + 1) = ((i + 1 : Nat) : Int) := by rw [wrap64 (by omega) (by omega)]; omega
        have h5 := ih (i+1) ⟨by omega, by rw [← hout, hx, hy, eqb_cons h3]⟩ (by omega)
        rw [← hw] at h5
        exact h5
    · have hi1 : ¬ i < xs.length := by rw [hlx] at h2; have := of_decide_eq_false h2; omega
      conv => whnf
      exact ⟨congrArg (fun x : Bool => [V.sc (.bool x)]) (show true = eqb xs ys by rw [← hout, List.drop_eq_nil_of_le (by omega), List.drop_eq_nil_of_le (by omega), eqb_yes rfl]), rfl⟩
theorem eqMessageS_ok (xs ys : List Message) (hb : xs.length ≤ 1048576) (H : ∀ x ∈ xs, ∀ y ∈ ys, Fn Try.prog [] 105 [.agg x.acells, .agg y.acells] [] (ret [.sc (.bool (eqb x y))] [])) : Fn Try.prog [] 46 [.sh 7 (Message.css xs), .sh 7 (Message.css ys)] [] (ret [.sc (.bool (eqb xs ys))] []) := by
  refine fn_of Try.func46 (by kernel_rfl) ?_
  have hlx := Message.css_len xs
  have hly := Message.css_len ys
  conv => whnf
  rw [hlx, hly]
  refine ifP_of (fun h => ?_) (fun h => ?_)
  · have hne : ¬ xs = ys := fun e => by rw [e] at h; simp at h
    conv => whnf
    exact ⟨congrArg (fun x : Bool => [V.sc (.bool x)]) (eqb_no hne).symm, rfl⟩
  · have hlen : xs.length = ys.length := by
      simp only [bne_eq_false_iff_eq] at h; omega
    conv => whnf
    refine loop_of (A := Nat) (fun i => ⟨[(0, .sh 7 (Message.css xs)), (1, .sh 7 (Message.css ys)), (5, .sc (.int .i64 i))], [], 0, 27, 0⟩) (fun i => xs.length - i) (fun i => i ≤ xs.length ∧ eqb (xs.drop i) (ys.drop i) = eqb xs ys) 0 rfl ⟨Nat.zero_le _, by rw [List.drop_zero, List.drop_zero]⟩ ?_
    intro i ⟨hi, hout⟩ X ih
    conv => whnf
    refine ifP_of (fun h2 => ?_) (fun h2 => ?_)
    · have hi1 : i < xs.length := by rw [hlx] at h2; have := of_decide_eq_true h2; omega
      have hi2 : i < ys.length := by omega
      have hx : xs.drop i = xs[i] :: xs.drop (i+1) := List.drop_eq_getElem_cons hi1
      have hy : ys.drop i = ys[i] :: ys.drop (i+1) := List.drop_eq_getElem_cons hi2
      conv => whnf
      try (refine chkP_of (by simp; done) ?_; conv => whnf)
      refine optP_of (Message.css_get hi1) ?_
      conv => whnf
      try (refine chkP_of (by simp; done) ?_; conv => whnf)
      refine optP_of (Message.css_get hi2) ?_
      conv => whnf
      refine Fn.use (H xs[i] (List.getElem_mem hi1) ys[i] (List.getElem_mem hi2)) ?_
      conv => whnf
      refine ⟨trivial, ?_⟩
      conv => whnf
      refine ifP_of (fun h3 => ?_) (fun h3 => ?_)
      · have h3 : ¬ xs[i] = ys[i] := of_eqb_no (by simpa using h3)
        conv => whnf
        exact ⟨congrArg (fun x : Bool => [V.sc (.bool x)]) (show false = eqb xs ys by rw [← hout, hx, hy, eqb_no (fun e => h3 (List.cons.inj e).1)]), rfl⟩
      · have h3 : xs[i] = ys[i] := of_eqb (by simpa using h3)
        conv => whnf
        have hw : IntKind.i64.wrap ((i : Int) + 1) = ((i + 1 : Nat) : Int) := by rw [wrap64 (by omega) (by omega)]; omega
        have h5 := ih (i+1) ⟨by omega, by rw [← hout, hx, hy, eqb_cons h3]⟩ (by omega)
        rw [← hw] at h5
        exact h5
    · have hi1 : ¬ i < xs.length := by rw [hlx] at h2; have := of_decide_eq_false h2; omega
      conv => whnf
      exact ⟨congrArg (fun x : Bool => [V.sc (.bool x)]) (show true = eqb xs ys by rw [← hout, List.drop_eq_nil_of_le (by omega), List.drop_eq_nil_of_le (by omega), eqb_yes rfl]), rfl⟩
theorem eqEnumVal_ok (a b : EnumVal)  : Fn Try.prog [] 202 [.agg a.acells, .agg b.acells] [] (ret [.sc (.bool (eqb a b))] []) := by
  obtain ⟨a_name, a_num, a_pos⟩ := a
  obtain ⟨b_name, b_num, b_pos⟩ := b
  refine fn_of Try.func202 (by kernel_rfl) ?_
  conv => whnf
  refine ifP_of (fun h => ?_) (fun h => ?_)
  · have h : ¬ a_name = b_name := by simpa [bytes_eq] using h
    conv => whnf
    exact ⟨congrArg (fun x : Bool => [V.sc (.bool x)]) (eqb_no (fun e => h (by injection e))).symm, rfl⟩
  · have g0 : a_name = b_name := by simpa [bytes_eq] using h
    conv => whnf
    refine ifP_of (fun h => ?_) (fun h => ?_)
    · have h : ¬ a_num = b_num := by simpa [bytes_eq] using h
      conv => whnf
      exact ⟨congrArg (fun x : Bool => [V.sc (.bool x)]) (eqb_no (fun e => h (by injection e))).symm, rfl⟩
    · have g1 : a_num = b_num := by simpa [bytes_eq] using h
      conv => whnf
      refine ifP_of (fun h => ?_) (fun h => ?_)
      · have h : ¬ a_pos = b_pos := by simpa [bytes_eq] using h
        conv => whnf
        exact ⟨congrArg (fun x : Bool => [V.sc (.bool x)]) (eqb_no (fun e => h (by injection e))).symm, rfl⟩
      · have g2 : a_pos = b_pos := by simpa [bytes_eq] using h
        conv => whnf
        exact ⟨congrArg (fun x : Bool => [V.sc (.bool x)]) (eqb_yes (by rw [g0, g1, g2])).symm, rfl⟩
theorem eqField_ok (a b : Field)  : Fn Try.prog [] 201 [.agg a.acells, .agg b.acells] [] (ret [.sc (.bool (eqb a b))] []) := by
  obtain ⟨a_name, a_ty, a_num, a_rep, a_oneof, a_pos⟩ := a
  obtain ⟨b_name, b_ty, b_num, b_rep, b_oneof, b_pos⟩ := b
  refine fn_of Try.func201 (by kernel_rfl) ?_
  conv => whnf
  refine ifP_of (fun h => ?_) (fun h => ?_)
  · have h : ¬ a_name = b_name := by simpa [bytes_eq] using h
    conv => whnf
    exact ⟨congrArg (fun x : Bool => [V.sc (.bool x)]) (eqb_no (fun e => h (by injection e))).symm, rfl⟩
  · have g0 : a_name = b_name := by simpa [bytes_eq] using h
    conv => whnf
    refine ifP_of (fun h => ?_) (fun h => ?_)
    · have h : ¬ a_ty = b_ty := by simpa [bytes_eq] using h
      conv => whnf
      exact ⟨congrArg (fun x : Bool => [V.sc (.bool x)]) (eqb_no (fun e => h (by injection e))).symm, rfl⟩
    · have g1 : a_ty = b_ty := by simpa [bytes_eq] using h
      conv => whnf
      refine ifP_of (fun h => ?_) (fun h => ?_)
      · have h : ¬ a_num = b_num := by simpa [bytes_eq] using h
        conv => whnf
        exact ⟨congrArg (fun x : Bool => [V.sc (.bool x)]) (eqb_no (fun e => h (by injection e))).symm, rfl⟩
      · have g2 : a_num = b_num := by simpa [bytes_eq] using h
        conv => whnf
        refine ifP_of (fun h => ?_) (fun h => ?_)
        · have h : ¬ a_rep = b_rep := by simpa [bytes_eq] using h
          conv => whnf
          exact ⟨congrArg (fun x : Bool => [V.sc (.bool x)]) (eqb_no (fun e => h (by injection e))).symm, rfl⟩
        · have g3 : a_rep = b_rep := by simpa [bytes_eq] using h
          conv => whnf
          refine ifP_of (fun h => ?_) (fun h => ?_)
          · have h : ¬ a_oneof = b_oneof := by simpa [bytes_eq] using h
            conv => whnf
            exact ⟨congrArg (fun x : Bool => [V.sc (.bool x)]) (eqb_no (fun e => h (by injection e))).symm, rfl⟩
          · have g4 : a_oneof = b_oneof := by simpa [bytes_eq] using h
            conv => whnf
            refine ifP_of (fun h => ?_) (fun h => ?_)
            · have h : ¬ a_pos = b_pos := by simpa [bytes_eq] using h
              conv => whnf
              exact ⟨congrArg (fun x : Bool => [V.sc (.bool x)]) (eqb_no (fun e => h (by injection e))).symm, rfl⟩
            · have g5 : a_pos = b_pos := by simpa [bytes_eq] using h
              conv => whnf
              exact ⟨congrArg (fun x : Bool => [V.sc (.bool x)]) (eqb_yes (by rw [g0, g1, g2, g3, g4, g5])).symm, rfl⟩
theorem eqEnum_ok (a b : Enum) (H_vals : Fn Try.prog [] 178 [.sh 3 (EnumVal.css a.vals), .sh 3 (EnumVal.css b.vals)] [] (ret [.sc (.bool (eqb a.vals b.vals))] [])) : Fn Try.prog [] 106 [.agg a.acells, .agg b.acells] [] (ret [.sc (.bool (eqb a b))] []) := by
  obtain ⟨a_name, a_vals, a_pos⟩ := a
  obtain ⟨b_name, b_vals, b_pos⟩ := b
  refine fn_of Try.func106 (by kernel_rfl) ?_
  conv => whnf
  refine ifP_of (fun h => ?_) (fun h => ?_)
  · have h : ¬ a_name = b_name := by simpa [bytes_eq] using h
    conv => whnf
    exact ⟨congrArg (fun x : Bool => [V.sc (.bool x)]) (eqb_no (fun e => h (by injection e))).symm, rfl⟩
  · have g0 : a_name = b_name := by simpa [bytes_eq] using h
    conv => whnf
    refine Fn.use H_vals ?_
    conv => whnf
    refine ⟨trivial, ?_⟩
    conv => whnf
    refine ifP_of (fun h => ?_) (fun h => ?_)
    · have h : ¬ a_vals = b_vals := of_eqb_no (by simpa using h)
      conv => whnf
      exact ⟨congrArg (fun x : Bool => [V.sc (.bool x)]) (eqb_no (fun e => h (by injection e))).symm, rfl⟩
    · have g1 : a_vals = b_vals := of_eqb (by simpa using h)
      conv => whnf
      refine ifP_of (fun h => ?_) (fun h => ?_)
      · have h : ¬ a_pos = b_pos := by simpa [bytes_eq] using h
        conv => whnf
        exact ⟨congrArg (fun x : Bool => [V.sc (.bool x)]) (eqb_no (fun e => h (by injection e))).symm, rfl⟩
      · have g2 : a_pos = b_pos := by simpa [bytes_eq] using h
        conv => whnf
        exact ⟨congrArg (fun x : Bool => [V.sc (.bool x)]) (eqb_yes (by rw [g0, g1, g2])).symm, rfl⟩
theorem eqMessage_ok (a b : Message) (H_fields : Fn Try.prog [] 175 [.sh 6 (Field.css a.fields), .sh 6 (Field.css b.fields)] [] (ret [.sc (.bool (eqb a.fields b.fields))] [])) (H_oneofs : Fn Try.prog [] 176 [.sh 1 (strC a.oneofs), .sh 1 (strC b.oneofs)] [] (ret [.sc (.bool (eqb a.oneofs b.oneofs))] [])) (H_reserved : Fn Try.prog [] 177 [.sh 1 (intC a.reserved), .sh 1 (intC b.reserved)] [] (ret [.sc (.bool (eqb a.reserved b.reserved))] [])) (H_messages : Fn Try.prog [] 46 [.sh 7 (Message.css a.messages), .sh 7 (Message.css b.messages)] [] (ret [.sc (.bool (eqb a.messages b.messages))] [])) (H_enums : Fn Try.prog [] 47 [.sh 3 (Enum.css a.enums), .sh 3 (Enum.css b.enums)] [] (ret [.sc (.bool (eqb a.enums b.enums))] [])) : Fn Try.prog [] 105 [.agg a.acells, .agg b.acells] [] (ret [.sc (.bool (eqb a b))] []) := by
  obtain ⟨a_name, a_fields, a_oneofs, a_reserved, a_messages, a_enums, a_pos⟩ := a
  obtain ⟨b_name, b_fields, b_oneofs, b_reserved, b_messages, b_enums, b_pos⟩ := b
  refine fn_of Try.func105 (by kernel_rfl) ?_
  conv => whnf
  refine ifP_of (fun h => ?_) (fun h => ?_)
  · have h : ¬ a_name = b_name := by simpa [bytes_eq] using h
    conv => whnf
    exact ⟨congrArg (fun x : Bool => [V.sc (.bool x)]) (eqb_no (fun e => h (by injection e))).symm, rfl⟩
  · have g0 : a_name = b_name := by simpa [bytes_eq] using h
    conv => whnf
    refine Fn.use H_fields ?_
    conv => whnf
    refine ⟨trivial, ?_⟩
    conv => whnf
    refine ifP_of (fun h => ?_) (fun h => ?_)
    · have h : ¬ a_fields = b_fields := of_eqb_no (by simpa using h)
      conv => whnf
      exact ⟨congrArg (fun x : Bool => [V.sc (.bool x)]) (eqb_no (fun e => h (by injection e))).symm, rfl⟩
    · have g1 : a_fields = b_fields := of_eqb (by simpa using h)
      conv => whnf
      refine Fn.use H_oneofs ?_
      conv => whnf
      refine ⟨trivial, ?_⟩
      conv => whnf
      refine ifP_of (fun h => ?_) (fun h => ?_)
      · have h : ¬ a_oneofs = b_oneofs := of_eqb_no (by simpa using h)
        conv => whnf
        exact ⟨congrArg (fun x : Bool => [V.sc (.bool x)]) (eqb_no (fun e => h (by injection e))).symm, rfl⟩
      · have g2 : a_oneofs = b_oneofs := of_eqb (by simpa using h)
        conv => whnf
        refine Fn.use H_reserved ?_
        conv => whnf
        refine ⟨trivial, ?_⟩
        conv => whnf
        refine ifP_of (fun h => ?_) (fun h => ?_)
        · have h : ¬ a_reserved = b_reserved := of_eqb_no (by simpa using h)
          conv => whnf
          exact ⟨congrArg (fun x : Bool => [V.sc (.bool x)]) (eqb_no (fun e => h (by injection e))).symm, rfl⟩
        · have g3 : a_reserved = b_reserved := of_eqb (by simpa using h)
          conv => whnf
          refine Fn.use H_messages ?_
          conv => whnf
          refine ⟨trivial, ?_⟩
          conv => whnf
          refine ifP_of (fun h => ?_) (fun h => ?_)
          · have h : ¬ a_messages = b_messages := of_eqb_no (by simpa using h)
            conv => whnf
            exact ⟨congrArg (fun x : Bool => [V.sc (.bool x)]) (eqb_no (fun e => h (by injection e))).symm, rfl⟩
          · have g4 : a_messages = b_messages := of_eqb (by simpa using h)
            conv => whnf
            refine Fn.use H_enums ?_
            conv => whnf
            refine ⟨trivial, ?_⟩
            conv => whnf
            refine ifP_of (fun h => ?_) (fun h => ?_)
            · have h : ¬ a_enums = b_enums := of_eqb_no (by simpa using h)
              conv => whnf
              exact ⟨congrArg (fun x : Bool => [V.sc (.bool x)]) (eqb_no (fun e => h (by injection e))).symm, rfl⟩
            · have g5 : a_enums = b_enums := of_eqb (by simpa using h)
              conv => whnf
              refine ifP_of (fun h => ?_) (fun h => ?_)
              · have h : ¬ a_pos = b_pos := by simpa [bytes_eq] using h
                conv => whnf
                exact ⟨congrArg (fun x : Bool => [V.sc (.bool x)]) (eqb_no (fun e => h (by injection e))).symm, rfl⟩
              · have g6 : a_pos = b_pos := by simpa [bytes_eq] using h
                conv => whnf
                exact ⟨congrArg (fun x : Bool => [V.sc (.bool x)]) (eqb_yes (by rw [g0, g1, g2, g3, g4, g5, g6])).symm, rfl⟩
theorem eqFile_ok (a b : File) (H_messages : Fn Try.prog [] 46 [.sh 7 (Message.css a.messages), .sh 7 (Message.css b.messages)] [] (ret [.sc (.bool (eqb a.messages b.messages))] [])) (H_enums : Fn Try.prog [] 47 [.sh 3 (Enum.css a.enums), .sh 3 (Enum.css b.enums)] [] (ret [.sc (.bool (eqb a.enums b.enums))] [])) : Fn Try.prog [] 13 [.agg a.acells, .agg b.acells] [] (ret [.sc (.bool (eqb a b))] []) := by
  obtain ⟨a_messages, a_enums⟩ := a
  obtain ⟨b_messages, b_enums⟩ := b
  refine fn_of Try.func13 (by kernel_rfl) ?_
  conv => whnf
  refine Fn.use H_messages ?_
  conv => whnf
  refine ⟨trivial, ?_⟩
  conv => whnf
  refine ifP_of (fun h => ?_) (fun h => ?_)
  · have h : ¬ a_messages = b_messages := of_eqb_no (by simpa using h)
    conv => whnf
    exact ⟨congrArg (fun x : Bool => [V.sc (.bool x)]) (eqb_no (fun e => h (by injection e))).symm, rfl⟩
  · have g0 : a_messages = b_messages := of_eqb (by simpa using h)
    conv => whnf
    refine Fn.use H_enums ?_
    conv => whnf
    refine ⟨trivial, ?_⟩
    conv => whnf
    refine ifP_of (fun h => ?_) (fun h => ?_)
    · have h : ¬ a_enums = b_enums := of_eqb_no (by simpa using h)
      conv => whnf
      exact ⟨congrArg (fun x : Bool => [V.sc (.bool x)]) (eqb_no (fun e => h (by injection e))).symm, rfl⟩
    · have g1 : a_enums = b_enums := of_eqb (by simpa using h)
      conv => whnf
      exact ⟨congrArg (fun x : Bool => [V.sc (.bool x)]) (eqb_yes (by rw [g0, g1])).symm, rfl⟩
end Ev
open Go Ev
open Go.Proofs
set_option maxRecDepth 100000
set_option maxHeartbeats 4000000
set_option linter.unusedVariables false
namespace Ev
theorem szEnumVal_all (a : EnumVal) (ha : a.ok) : ∀ l, 0 ≤ l → l ≤ 1048576 → Fn Try.prog [] 198 [.agg a.acells, .sc (.int .i64 l)] [] (ret [.sc (.int .i64 (dec l a.w))] []) := by
    intro l h0 h1
    obtain ⟨name, num, pos⟩ := a
    have ha : name.size ≤ 9223372036854775807 := ha
    have p_name := ha
    exact szEnumVal_ok _ l p_name h0 h1
theorem szEnumValS_all (xs : List EnumVal) (h : EnumVal.oks xs) (l : Int) (h0 : 0 ≤ l) (h1 : l ≤ 1048576) : Fn Try.prog [] 170 [.sh 3 (EnumVal.css xs), .sc (.int .i64 l)] [] (ret [.sc (.int .i64 (dec l (EnumVal.ws xs)))] []) := szEnumValS_ok xs l h.1 h0 h1 (fun x hx l h0 h1 => szEnumVal_all x (EnumVal.okl_mem h.2 x hx) l h0 h1)
theorem szField_all (a : Field) (ha : a.ok) : ∀ l, 0 ≤ l → l ≤ 1048576 → Fn Try.prog [] 197 [.agg a.acells, .sc (.int .i64 l)] [] (ret [.sc (.int .i64 (dec l a.w))] []) := by
    intro l h0 h1
    obtain ⟨name, ty, num, rep, oneof, pos⟩ := a
    have ha : name.size ≤ 9223372036854775807 ∧ ty.size ≤ 9223372036854775807 ∧ oneof.size ≤ 9223372036854775807 := ha
    obtain ⟨p_name, p_ty, p_oneof⟩ := ha
    exact szField_ok _ l p_name p_ty p_oneof h0 h1
theorem szFieldS_all (xs : List Field) (h : Field.oks xs) (l : Int) (h0 : 0 ≤ l) (h1 : l ≤ 1048576) : Fn Try.prog [] 167 [.sh 6 (Field.css xs), .sc (.int .i64 l)] [] (ret [.sc (.int .i64 (dec l (Field.ws xs)))] []) := szFieldS_ok xs l h.1 h0 h1 (fun x hx l h0 h1 => szField_all x (Field.okl_mem h.2 x hx) l h0 h1)
theorem szEnum_all (a : Enum) (ha : a.ok) : ∀ l, 0 ≤ l → l ≤ 1048576 → Fn Try.prog [] 97 [.agg a.acells, .sc (.int .i64 l)] [] (ret [.sc (.int .i64 (dec l a.w))] []) := by
    intro l h0 h1
    obtain ⟨name, vals, pos⟩ := a
    have ha : name.size ≤ 9223372036854775807 ∧ EnumVal.oks vals := ha
    obtain ⟨p_name, p_vals⟩ := ha
    exact szEnum_ok _ l p_name (fun l h0 h1 => szEnumValS_all vals p_vals l h0 h1) h0 h1
theorem szEnumS_all (xs : List Enum) (h : Enum.oks xs) (l : Int) (h0 : 0 ≤ l) (h1 : l ≤ 1048576) : Fn Try.prog [] 37 [.sh 3 (Enum.css xs), .sc (.int .i64 l)] [] (ret [.sc (.int .i64 (dec l (Enum.ws xs)))] []) := szEnumS_ok xs l h.1 h0 h1 (fun x hx l h0 h1 => szEnum_all x (Enum.okl_mem h.2 x hx) l h0 h1)
theorem szMessage_rec : ∀ (n : Nat) (a : Message), sizeOf a < n → a.ok → ∀ l, 0 ≤ l → l ≤ 1048576 → Fn Try.prog [] 96 [.agg a.acells, .sc (.int .i64 l)] [] (ret [.sc (.int .i64 (dec l a.w))] []) := by
  intro n
  induction n with
  | zero => intro a hn; omega
  | succ n ih =>
    intro a hn ha l h0 h1
    obtain ⟨name, fields, oneofs, reserved, messages, enums, pos⟩ := a
    have ha : name.size ≤ 9223372036854775807 ∧ Field.oks fields ∧ strO oneofs ∧ reserved.length ≤ 9223372036854775807 ∧ (messages.length ≤ 9223372036854775807 ∧ Message.okl messages) ∧ Enum.oks enums := ha
    obtain ⟨p_name, p_fields, p_oneofs, p_reserved, p_messages, p_enums⟩ := ha
    exact szMessage_ok _ l p_name (fun l h0 h1 => szFieldS_all fields p_fields l h0 h1) (fun l h0 h1 => szStringS_ok oneofs l p_oneofs h0 h1) (fun l h0 h1 => szIntS_ok reserved l p_reserved h0 h1) (fun l h0 h1 => szMessageS_ok messages l p_messages.1 h0 h1 (fun x hx l h0 h1 => ih x (by have := List.sizeOf_lt_of_mem hx; simp at hn; omega) (Message.okl_mem p_messages.2 x hx) l h0 h1)) (fun l h0 h1 => szEnumS_all enums p_enums l h0 h1) h0 h1
theorem szMessage_all (a : Message) (ha : a.ok) : ∀ l, 0 ≤ l → l ≤ 1048576 → Fn Try.prog [] 96 [.agg a.acells, .sc (.int .i64 l)] [] (ret [.sc (.int .i64 (dec l a.w))] []) := szMessage_rec _ a (Nat.lt_succ_self _) ha
theorem szMessageS_all (xs : List Message) (h : Message.oks xs) (l : Int) (h0 : 0 ≤ l) (h1 : l ≤ 1048576) : Fn Try.prog [] 36 [.sh 7 (Message.css xs), .sc (.int .i64 l)] [] (ret [.sc (.int .i64 (dec l (Message.ws xs)))] []) := szMessageS_ok xs l h.1 h0 h1 (fun x hx l h0 h1 => szMessage_all x (Message.okl_mem h.2 x hx) l h0 h1)
theorem szFile_all (a : File) (ha : a.ok) : ∀ l, 0 ≤ l → l ≤ 1048576 → Fn Try.prog [] 9 [.agg a.acells, .sc (.int .i64 l)] [] (ret [.sc (.int .i64 (dec l a.w))] []) := by
    intro l h0 h1
    obtain ⟨messages, enums⟩ := a
    have ha : Message.oks messages ∧ Enum.oks enums := ha
    obtain ⟨p_messages, p_enums⟩ := ha
    exact szFile_ok _ l (fun l h0 h1 => szMessageS_all messages p_messages l h0 h1) (fun l h0 h1 => szEnumS_all enums p_enums l h0 h1) h0 h1
theorem toEnumVal_all (a : EnumVal) (ha : a.w ≤ 1048576) : Fn Try.prog [] 200 [.agg a.acells] [] (ret [.agg a.ocells] []) := by
    obtain ⟨a_name, a_num, a_pos⟩ := a
    have ha : a_name.size ≤ 1048576 := ha
    exact toEnumVal_ok _ 
theorem toEnumValS_all (xs : List EnumVal) (h : EnumVal.ws xs ≤ 1048576) : Fn Try.prog [] 174 [.sh 3 (EnumVal.css xs)] [] (ret [.own true 3 (EnumVal.css xs)] []) := by
  unfold EnumVal.ws at h
  exact toEnumValS_ok xs (by omega) (fun x hx => toEnumVal_all x (by have := EnumVal.ss_mem hx; omega))
theorem toField_all (a : Field) (ha : a.w ≤ 1048576) : Fn Try.prog [] 199 [.agg a.acells] [] (ret [.agg a.ocells] []) := by
    obtain ⟨a_name, a_ty, a_num, a_rep, a_oneof, a_pos⟩ := a
    have ha : a_name.size + a_ty.size + a_oneof.size ≤ 1048576 := ha
    exact toField_ok _ 
theorem toFieldS_all (xs : List Field) (h : Field.ws xs ≤ 1048576) : Fn Try.prog [] 171 [.sh 6 (Field.css xs)] [] (ret [.own true 6 (Field.css xs)] []) := by
  unfold Field.ws at h
  exact toFieldS_ok xs (by omega) (fun x hx => toField_all x (by have := Field.ss_mem hx; omega))
theorem toEnum_all (a : Enum) (ha : a.w ≤ 1048576) : Fn Try.prog [] 99 [.agg a.acells] [] (ret [.agg a.ocells] []) := by
    obtain ⟨a_name, a_vals, a_pos⟩ := a
    have ha : a_name.size + EnumVal.ws a_vals ≤ 1048576 := ha
    exact toEnum_ok _ (toEnumValS_all a_vals (by omega))
theorem toEnumS_all (xs : List Enum) (h : Enum.ws xs ≤ 1048576) : Fn Try.prog [] 41 [.sh 3 (Enum.css xs)] [] (ret [.own true 3 (Enum.css xs)] []) := by
  unfold Enum.ws at h
  exact toEnumS_ok xs (by omega) (fun x hx => toEnum_all x (by have := Enum.ss_mem hx; omega))
theorem toMessage_rec : ∀ (n : Nat) (a : Message), sizeOf a < n → a.w ≤ 1048576 → Fn Try.prog [] 98 [.agg a.acells] [] (ret [.agg a.ocells] []) := by
  intro n
  induction n with
  | zero => intro a hn; omega
  | succ n ih =>
    intro a hn ha 
    obtain ⟨a_name, a_fields, a_oneofs, a_reserved, a_messages, a_enums, a_pos⟩ := a
    have ha : a_name.size + Field.ws a_fields + strW a_oneofs + a_reserved.length + (a_messages.length + Message.ss a_messages) + Enum.ws a_enums ≤ 1048576 := ha
    exact toMessage_ok _ (toFieldS_all a_fields (by omega)) (toStringS_ok a_oneofs (by unfold strW at ha; omega)) (toIntS_ok a_reserved (by omega)) (toMessageS_ok a_messages (by omega) (fun x hx => ih x (by have := List.sizeOf_lt_of_mem hx; simp at hn; omega) (by have := Message.ss_mem hx; omega))) (toEnumS_all a_enums (by omega))
theorem toMessage_all (a : Message) (ha : a.w ≤ 1048576) : Fn Try.prog [] 98 [.agg a.acells] [] (ret [.agg a.ocells] []) := toMessage_rec _ a (Nat.lt_succ_self _) ha
theorem toMessageS_all (xs : List Message) (h : Message.ws xs ≤ 1048576) : Fn Try.prog [] 40 [.sh 7 (Message.css xs)] [] (ret [.own true 7 (Message.css xs)] []) := by
  unfold Message.ws at h
  exact toMessageS_ok xs (by omega) (fun x hx => toMessage_all x (by have := Message.ss_mem hx; omega))
theorem toFile_all (a : File) (ha : a.w ≤ 1048576) : Fn Try.prog [] 11 [.agg a.acells] [] (ret [.agg a.ocells] []) := by
    obtain ⟨a_messages, a_enums⟩ := a
    have ha : Message.ws a_messages + Enum.ws a_enums ≤ 1048576 := ha
    exact toFile_ok _ (toMessageS_all a_messages (by omega)) (toEnumS_all a_enums (by omega))
theorem eqEnumVal_all (a : EnumVal) (ha : a.w ≤ 1048576) : ∀ b : EnumVal, Fn Try.prog [] 202 [.agg a.acells, .agg b.acells] [] (ret [.sc (.bool (eqb a b))] []) := by
    intro b
    obtain ⟨a_name, a_num, a_pos⟩ := a
    have ha : a_name.size ≤ 1048576 := ha
    obtain ⟨b_name, b_num, b_pos⟩ := b
    exact eqEnumVal_ok _ _ 
theorem eqEnumValS_all (xs ys : List EnumVal) (h : EnumVal.ws xs ≤ 1048576) : Fn Try.prog [] 178 [.sh 3 (EnumVal.css xs), .sh 3 (EnumVal.css ys)] [] (ret [.sc (.bool (eqb xs ys))] []) := by
  unfold EnumVal.ws at h
  exact eqEnumValS_ok xs ys (by omega) (fun x hx y hy => eqEnumVal_all x (by have := EnumVal.ss_mem hx; omega) y)
theorem eqField_all (a : Field) (ha : a.w ≤ 1048576) : ∀ b : Field, Fn Try.prog [] 201 [.agg a.acells, .agg b.acells] [] (ret [.sc (.bool (eqb a b))] []) := by
    intro b
    obtain ⟨a_name, a_ty, a_num, a_rep, a_oneof, a_pos⟩ := a
    have ha : a_name.size + a_ty.size + a_oneof.size ≤ 1048576 := ha
    obtain ⟨b_name, b_ty, b_num, b_rep, b_oneof, b_pos⟩ := b
    exact eqField_ok _ _ 
theorem eqFieldS_all (xs ys : List Field) (h : Field.ws xs ≤ 1048576) : Fn Try.prog [] 175 [.sh 6 (Field.css xs), .sh 6 (Field.css ys)] [] (ret [.sc (.bool (eqb xs ys))] []) := by
  unfold Field.ws at h
  exact eqFieldS_ok xs ys (by omega) (fun x hx y hy => eqField_all x (by have := Field.ss_mem hx; omega) y)
theorem eqEnum_all (a : Enum) (ha : a.w ≤ 1048576) : ∀ b : Enum, Fn Try.prog [] 106 [.agg a.acells, .agg b.acells] [] (ret [.sc (.bool (eqb a b))] []) := by
    intro b
    obtain ⟨a_name, a_vals, a_pos⟩ := a
    have ha : a_name.size + EnumVal.ws a_vals ≤ 1048576 := ha
    obtain ⟨b_name, b_vals, b_pos⟩ := b
    exact eqEnum_ok _ _ (eqEnumValS_all a_vals b_vals (by omega))
theorem eqEnumS_all (xs ys : List Enum) (h : Enum.ws xs ≤ 1048576) : Fn Try.prog [] 47 [.sh 3 (Enum.css xs), .sh 3 (Enum.css ys)] [] (ret [.sc (.bool (eqb xs ys))] []) := by
  unfold Enum.ws at h
  exact eqEnumS_ok xs ys (by omega) (fun x hx y hy => eqEnum_all x (by have := Enum.ss_mem hx; omega) y)
theorem eqMessage_rec : ∀ (n : Nat) (a : Message), sizeOf a < n → a.w ≤ 1048576 → ∀ b : Message, Fn Try.prog [] 105 [.agg a.acells, .agg b.acells] [] (ret [.sc (.bool (eqb a b))] []) := by
  intro n
  induction n with
  | zero => intro a hn; omega
  | succ n ih =>
    intro a hn ha b
    obtain ⟨a_name, a_fields, a_oneofs, a_reserved, a_messages, a_enums, a_pos⟩ := a
    have ha : a_name.size + Field.ws a_fields + strW a_oneofs + a_reserved.length + (a_messages.length + Message.ss a_messages) + Enum.ws a_enums ≤ 1048576 := ha
    obtain ⟨b_name, b_fields, b_oneofs, b_reserved, b_messages, b_enums, b_pos⟩ := b
    exact eqMessage_ok _ _ (eqFieldS_all a_fields b_fields (by omega)) (eqStringS_ok a_oneofs b_oneofs (by unfold strW at ha; omega)) (eqIntS_ok a_reserved b_reserved (by omega)) (eqMessageS_ok a_messages b_messages (by omega) (fun x hx y hy => ih x (by have := List.sizeOf_lt_of_mem hx; simp at hn; omega) (by have := Message.ss_mem hx; omega) y)) (eqEnumS_all a_enums b_enums (by omega))
theorem eqMessage_all (a : Message) (ha : a.w ≤ 1048576) : ∀ b : Message, Fn Try.prog [] 105 [.agg a.acells, .agg b.acells] [] (ret [.sc (.bool (eqb a b))] []) := eqMessage_rec _ a (Nat.lt_succ_self _) ha
theorem eqMessageS_all (xs ys : List Message) (h : Message.ws xs ≤ 1048576) : Fn Try.prog [] 46 [.sh 7 (Message.css xs), .sh 7 (Message.css ys)] [] (ret [.sc (.bool (eqb xs ys))] []) := by
  unfold Message.ws at h
  exact eqMessageS_ok xs ys (by omega) (fun x hx y hy => eqMessage_all x (by have := Message.ss_mem hx; omega) y)
theorem eqFile_all (a : File) (ha : a.w ≤ 1048576) : ∀ b : File, Fn Try.prog [] 13 [.agg a.acells, .agg b.acells] [] (ret [.sc (.bool (eqb a b))] []) := by
    intro b
    obtain ⟨a_messages, a_enums⟩ := a
    have ha : Message.ws a_messages + Enum.ws a_enums ≤ 1048576 := ha
    obtain ⟨b_messages, b_enums⟩ := b
    exact eqFile_ok _ _ (eqMessageS_all a_messages b_messages (by omega)) (eqEnumS_all a_enums b_enums (by omega))
end Ev
