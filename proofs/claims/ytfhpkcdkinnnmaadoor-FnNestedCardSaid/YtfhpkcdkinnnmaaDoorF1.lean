/- Contracts of functions of the given program, shown on the evaluator; each states its own conditions. -/
import Derived.Test.YtfhpkcdkinnnmaaDoorS
open Go Ev
open Go.Proofs
set_option maxRecDepth 100000
set_option maxHeartbeats 4000000
set_option linter.unusedVariables false
namespace Ev
def strC (l : List ByteArray) : List (List V) := l.map fun b => [.sc (.string b)]
def intC (l : List Int) : List (List V) := l.map fun n => [.sc (.int .i64 n)]
def strS : List ByteArray → Nat
  | [] => 0
  | b :: l => b.size + strS l
def strW (l : List ByteArray) : Nat := l.length + strS l
def strO (l : List ByteArray) : Prop := l.length ≤ 9223372036854775807 ∧ ∀ b ∈ l, b.size ≤ 9223372036854775807
theorem strS_drop {l : List ByteArray} {i : Nat} (h : i < l.length) : strS (l.drop i) = l[i].size + strS (l.drop (i + 1)) := by rw [List.drop_eq_getElem_cons h, strS]
theorem strC_len (l : List ByteArray) : (strC l).length = l.length := List.length_map ..
theorem strC_get {xs : List ByteArray} {i : Nat} (h : i < xs.length) : (strC xs)[i]? = some [.sc (.string xs[i])] := get_map h
theorem intC_len (l : List Int) : (intC l).length = l.length := List.length_map ..
theorem intC_get {xs : List Int} {i : Nat} (h : i < xs.length) : (intC xs)[i]? = some [.sc (.int .i64 xs[i])] := get_map h
structure EnumVal where
  name : ByteArray
  num : Int
  pos : Int
def EnumVal.cs : EnumVal → List V
  | ⟨name, num, pos⟩ => [.sc (.string name), .sc (.int .i64 num), .sc (.int .i64 pos)]
def EnumVal.css : List EnumVal → List (List V)
  | [] => []
  | a :: l => a.cs :: EnumVal.css l
def EnumVal.w : EnumVal → Nat
  | ⟨name, num, pos⟩ => name.size
def EnumVal.ss : List EnumVal → Nat
  | [] => 0
  | a :: l => a.w + EnumVal.ss l
def EnumVal.ws (l : List EnumVal) : Nat := l.length + EnumVal.ss l
def EnumVal.ok : EnumVal → Prop
  | ⟨name, num, pos⟩ => name.size ≤ 9223372036854775807
def EnumVal.okl : List EnumVal → Prop
  | [] => True
  | a :: l => a.ok ∧ EnumVal.okl l
def EnumVal.oks (l : List EnumVal) : Prop := l.length ≤ 9223372036854775807 ∧ EnumVal.okl l
def EnumVal.cells (a : EnumVal) : List V := [.sc (.string a.name), .sc (.int .i64 a.num), .sc (.int .i64 a.pos)]
def EnumVal.acells (a : EnumVal) : List V := [.sc (.string a.name), .sc (.int .i64 a.num), .sc (.int .i64 a.pos)]
def EnumVal.ocells (a : EnumVal) : List V := [.sc (.string a.name), .sc (.int .i64 a.num), .sc (.int .i64 a.pos)]
theorem EnumVal.cs_eq (a : EnumVal) : a.cs = a.cells := by cases a; rfl
theorem EnumVal.css_len : ∀ l : List EnumVal, (EnumVal.css l).length = l.length
  | [] => rfl
  | a :: l => by rw [EnumVal.css, List.length_cons, List.length_cons, EnumVal.css_len l]
theorem EnumVal.css_get : ∀ {l : List EnumVal} {i : Nat} (h : i < l.length), (EnumVal.css l)[i]? = some (EnumVal.cells l[i])
  | a :: l, 0, h => by rw [EnumVal.css, List.getElem?_cons_zero, EnumVal.cs_eq]; rfl
  | a :: l, i + 1, h => by rw [EnumVal.css, List.getElem?_cons_succ]; exact EnumVal.css_get (by simpa using h)
theorem EnumVal.okl_mem : ∀ {l : List EnumVal}, EnumVal.okl l → ∀ a ∈ l, a.ok
  | [], _ => fun b hb => nomatch hb
  | a :: l, h => fun b hb => by
    rw [EnumVal.okl] at h
    rcases List.mem_cons.1 hb with rfl | hb
    · exact h.1
    · exact EnumVal.okl_mem h.2 b hb
theorem EnumVal.ss_drop {l : List EnumVal} {i : Nat} (h : i < l.length) : EnumVal.ss (l.drop i) = l[i].w + EnumVal.ss (l.drop (i + 1)) := by rw [List.drop_eq_getElem_cons h, EnumVal.ss]
theorem EnumVal.ss_mem : ∀ {l : List EnumVal} {a : EnumVal}, a ∈ l → a.w ≤ EnumVal.ss l
  | b :: l, a, h => by
    rw [EnumVal.ss]
    rcases List.mem_cons.1 h with rfl | h
    · omega
    · have := EnumVal.ss_mem h; omega
structure Field where
  name : ByteArray
  ty : ByteArray
  num : Int
  rep : Bool
  oneof : ByteArray
  pos : Int
def Field.cs : Field → List V
  | ⟨name, ty, num, rep, oneof, pos⟩ => [.sc (.string name), .sc (.string ty), .sc (.int .i64 num), .sc (.bool rep), .sc (.string oneof), .sc (.int .i64 pos)]
def Field.css : List Field → List (List V)
  | [] => []
  | a :: l => a.cs :: Field.css l
def Field.w : Field → Nat
  | ⟨name, ty, num, rep, oneof, pos⟩ => name.size + ty.size + oneof.size
def Field.ss : List Field → Nat
  | [] => 0
  | a :: l => a.w + Field.ss l
def Field.ws (l : List Field) : Nat := l.length + Field.ss l
def Field.ok : Field → Prop
  | ⟨name, ty, num, rep, oneof, pos⟩ => name.size ≤ 9223372036854775807 ∧ ty.size ≤ 9223372036854775807 ∧ oneof.size ≤ 9223372036854775807
def Field.okl : List Field → Prop
  | [] => True
  | a :: l => a.ok ∧ Field.okl l
def Field.oks (l : List Field) : Prop := l.length ≤ 9223372036854775807 ∧ Field.okl l
def Field.cells (a : Field) : List V := [.sc (.string a.name), .sc (.string a.ty), .sc (.int .i64 a.num), .sc (.bool a.rep), .sc (.string a.oneof), .sc (.int .i64 a.pos)]
def Field.acells (a : Field) : List V := [.sc (.string a.name), .sc (.string a.ty), .sc (.int .i64 a.num), .sc (.bool a.rep), .sc (.string a.oneof), .sc (.int .i64 a.pos)]
def Field.ocells (a : Field) : List V := [.sc (.string a.name), .sc (.string a.ty), .sc (.int .i64 a.num), .sc (.bool a.rep), .sc (.string a.oneof), .sc (.int .i64 a.pos)]
theorem Field.cs_eq (a : Field) : a.cs = a.cells := by cases a; rfl
theorem Field.css_len : ∀ l : List Field, (Field.css l).length = l.length
  | [] => rfl
  | a :: l => by rw [Field.css, List.length_cons, List.length_cons, Field.css_len l]
theorem Field.css_get : ∀ {l : List Field} {i : Nat} (h : i < l.length), (Field.css l)[i]? = some (Field.cells l[i])
  | a :: l, 0, h => by rw [Field.css, List.getElem?_cons_zero, Field.cs_eq]; rfl
  | a :: l, i + 1, h => by rw [Field.css, List.getElem?_cons_succ]; exact Field.css_get (by simpa using h)
theorem Field.okl_mem : ∀ {l : List Field}, Field.okl l → ∀ a ∈ l, a.ok
  | [], _ => fun b hb => nomatch hb
  | a :: l, h => fun b hb => by
    rw [Field.okl] at h
    rcases List.mem_cons.1 hb with rfl | hb
    · exact h.1
    · exact Field.okl_mem h.2 b hb
theorem Field.ss_drop {l : List Field} {i : Nat} (h : i < l.length) : Field.ss (l.drop i) = l[i].w + Field.ss (l.drop (i + 1)) := by rw [List.drop_eq_getElem_cons h, Field.ss]
theorem Field.ss_mem : ∀ {l : List Field} {a : Field}, a ∈ l → a.w ≤ Field.ss l
  | b :: l, a, h => by
    rw [Field.ss]
    rcases List.mem_cons.1 h with rfl | h
    · omega
    · have := Field.ss_mem h; omega
structure Enum where
  name : ByteArray
  vals : List EnumVal
  pos : Int
def Enum.cs : Enum → List V
  | ⟨name, vals, pos⟩ => [.sc (.string name), .sl 3 (EnumVal.css vals), .sc (.int .i64 pos)]
def Enum.css : List Enum → List (List V)
  | [] => []
  | a :: l => a.cs :: Enum.css l
def Enum.w : Enum → Nat
  | ⟨name, vals, pos⟩ => name.size + EnumVal.ws vals
def Enum.ss : List Enum → Nat
  | [] => 0
  | a :: l => a.w + Enum.ss l
def Enum.ws (l : List Enum) : Nat := l.length + Enum.ss l
def Enum.ok : Enum → Prop
  | ⟨name, vals, pos⟩ => name.size ≤ 9223372036854775807 ∧ EnumVal.oks vals
def Enum.okl : List Enum → Prop
  | [] => True
  | a :: l => a.ok ∧ Enum.okl l
def Enum.oks (l : List Enum) : Prop := l.length ≤ 9223372036854775807 ∧ Enum.okl l
def Enum.cells (a : Enum) : List V := [.sc (.string a.name), .sl 3 (EnumVal.css a.vals), .sc (.int .i64 a.pos)]
def Enum.acells (a : Enum) : List V := [.sc (.string a.name), .sh 3 (EnumVal.css a.vals), .sc (.int .i64 a.pos)]
def Enum.ocells (a : Enum) : List V := [.sc (.string a.name), .own true 3 (EnumVal.css a.vals), .sc (.int .i64 a.pos)]
theorem Enum.cs_eq (a : Enum) : a.cs = a.cells := by cases a; rfl
theorem Enum.css_len : ∀ l : List Enum, (Enum.css l).length = l.length
  | [] => rfl
  | a :: l => by rw [Enum.css, List.length_cons, List.length_cons, Enum.css_len l]
theorem Enum.css_get : ∀ {l : List Enum} {i : Nat} (h : i < l.length), (Enum.css l)[i]? = some (Enum.cells l[i])
  | a :: l, 0, h => by rw [Enum.css, List.getElem?_cons_zero, Enum.cs_eq]; rfl
  | a :: l, i + 1, h => by rw [Enum.css, List.getElem?_cons_succ]; exact Enum.css_get (by simpa using h)
theorem Enum.okl_mem : ∀ {l : List Enum}, Enum.okl l → ∀ a ∈ l, a.ok
  | [], _ => fun b hb => nomatch hb
  | a :: l, h => fun b hb => by
    rw [Enum.okl] at h
    rcases List.mem_cons.1 hb with rfl | hb
    · exact h.1
    · exact Enum.okl_mem h.2 b hb
theorem Enum.ss_drop {l : List Enum} {i : Nat} (h : i < l.length) : Enum.ss (l.drop i) = l[i].w + Enum.ss (l.drop (i + 1)) := by rw [List.drop_eq_getElem_cons h, Enum.ss]
theorem Enum.ss_mem : ∀ {l : List Enum} {a : Enum}, a ∈ l → a.w ≤ Enum.ss l
  | b :: l, a, h => by
    rw [Enum.ss]
    rcases List.mem_cons.1 h with rfl | h
    · omega
    · have := Enum.ss_mem h; omega
structure Message where
  name : ByteArray
  fields : List Field
  oneofs : List ByteArray
  reserved : List Int
  messages : List Message
  enums : List Enum
  pos : Int
mutual
def Message.cs : Message → List V
  | ⟨name, fields, oneofs, reserved, messages, enums, pos⟩ => [.sc (.string name), .sl 6 (Field.css fields), .sl 1 (strC oneofs), .sl 1 (intC reserved), .sl 7 (Message.css messages), .sl 3 (Enum.css enums), .sc (.int .i64 pos)]
def Message.css : List Message → List (List V)
  | [] => []
  | a :: l => a.cs :: Message.css l
end
mutual
def Message.w : Message → Nat
  | ⟨name, fields, oneofs, reserved, messages, enums, pos⟩ => name.size + Field.ws fields + strW oneofs + reserved.length + (messages.length + Message.ss messages) + Enum.ws enums
def Message.ss : List Message → Nat
  | [] => 0
  | a :: l => a.w + Message.ss l
end
def Message.ws (l : List Message) : Nat := l.length + Message.ss l
mutual
def Message.ok : Message → Prop
  | ⟨name, fields, oneofs, reserved, messages, enums, pos⟩ => name.size ≤ 9223372036854775807 ∧ Field.oks fields ∧ strO oneofs ∧ reserved.length ≤ 9223372036854775807 ∧ (messages.length ≤ 9223372036854775807 ∧ Message.okl messages) ∧ Enum.oks enums
def Message.okl : List Message → Prop
  | [] => True
  | a :: l => a.ok ∧ Message.okl l
end
def Message.oks (l : List Message) : Prop := l.length ≤ 9223372036854775807 ∧ Message.okl l
def Message.cells (a : Message) : List V := [.sc (.string a.name), .sl 6 (Field.css a.fields), .sl 1 (strC a.oneofs), .sl 1 (intC a.reserved), .sl 7 (Message.css a.messages), .sl 3 (Enum.css a.enums), .sc (.int .i64 a.pos)]
def Message.acells (a : Message) : List V := [.sc (.string a.name), .sh 6 (Field.css a.fields), .sh 1 (strC a.oneofs), .sh 1 (intC a.reserved), .sh 7 (Message.css a.messages), .sh 3 (Enum.css a.enums), .sc (.int .i64 a.pos)]
def Message.ocells (a : Message) : List V := [.sc (.string a.name), .own true 6 (Field.css a.fields), .own true 1 (strC a.oneofs), .own true 1 (intC a.reserved), .own true 7 (Message.css a.messages), .own true 3 (Enum.css a.enums), .sc (.int .i64 a.pos)]
theorem Message.cs_eq (a : Message) : a.cs = a.cells := by cases a; rfl
theorem Message.css_len : ∀ l : List Message, (Message.css l).length = l.length
  | [] => rfl
  | a :: l => by rw [Message.css, List.length_cons, List.length_cons, Message.css_len l]
theorem Message.css_get : ∀ {l : List Message} {i : Nat} (h : i < l.length), (Message.css l)[i]? = some (Message.cells l[i])
  | a :: l, 0, h => by rw [Message.css, List.getElem?_cons_zero, Message.cs_eq]; rfl
  | a :: l, i + 1, h => by rw [Message.css, List.getElem?_cons_succ]; exact Message.css_get (by simpa using h)
theorem Message.okl_mem : ∀ {l : List Message}, Message.okl l → ∀ a ∈ l, a.ok
  | [], _ => fun b hb => nomatch hb
  | a :: l, h => fun b hb => by
    rw [Message.okl] at h
    rcases List.mem_cons.1 hb with rfl | hb
    · exact h.1
    · exact Message.okl_mem h.2 b hb
theorem Message.ss_drop {l : List Message} {i : Nat} (h : i < l.length) : Message.ss (l.drop i) = l[i].w + Message.ss (l.drop (i + 1)) := by rw [List.drop_eq_getElem_cons h, Message.ss]
theorem Message.ss_mem : ∀ {l : List Message} {a : Message}, a ∈ l → a.w ≤ Message.ss l
  | b :: l, a, h => by
    rw [Message.ss]
    rcases List.mem_cons.1 h with rfl | h
    · omega
    · have := Message.ss_mem h; omega
structure File where
  messages : List Message
  enums : List Enum
def File.cs : File → List V
  | ⟨messages, enums⟩ => [.sl 7 (Message.css messages), .sl 3 (Enum.css enums)]
def File.css : List File → List (List V)
  | [] => []
  | a :: l => a.cs :: File.css l
def File.w : File → Nat
  | ⟨messages, enums⟩ => Message.ws messages + Enum.ws enums
def File.ss : List File → Nat
  | [] => 0
  | a :: l => a.w + File.ss l
def File.ws (l : List File) : Nat := l.length + File.ss l
def File.ok : File → Prop
  | ⟨messages, enums⟩ => Message.oks messages ∧ Enum.oks enums
def File.okl : List File → Prop
  | [] => True
  | a :: l => a.ok ∧ File.okl l
def File.oks (l : List File) : Prop := l.length ≤ 9223372036854775807 ∧ File.okl l
def File.cells (a : File) : List V := [.sl 7 (Message.css a.messages), .sl 3 (Enum.css a.enums)]
def File.acells (a : File) : List V := [.sh 7 (Message.css a.messages), .sh 3 (Enum.css a.enums)]
def File.ocells (a : File) : List V := [.own true 7 (Message.css a.messages), .own true 3 (Enum.css a.enums)]
theorem File.cs_eq (a : File) : a.cs = a.cells := by cases a; rfl
theorem File.css_len : ∀ l : List File, (File.css l).length = l.length
  | [] => rfl
  | a :: l => by rw [File.css, List.length_cons, List.length_cons, File.css_len l]
theorem File.css_get : ∀ {l : List File} {i : Nat} (h : i < l.length), (File.css l)[i]? = some (File.cells l[i])
  | a :: l, 0, h => by rw [File.css, List.getElem?_cons_zero, File.cs_eq]; rfl
  | a :: l, i + 1, h => by rw [File.css, List.getElem?_cons_succ]; exact File.css_get (by simpa using h)
theorem File.okl_mem : ∀ {l : List File}, File.okl l → ∀ a ∈ l, a.ok
  | [], _ => fun b hb => nomatch hb
  | a :: l, h => fun b hb => by
    rw [File.okl] at h
    rcases List.mem_cons.1 hb with rfl | hb
    · exact h.1
    · exact File.okl_mem h.2 b hb
theorem File.ss_drop {l : List File} {i : Nat} (h : i < l.length) : File.ss (l.drop i) = l[i].w + File.ss (l.drop (i + 1)) := by rw [List.drop_eq_getElem_cons h, File.ss]
theorem File.ss_mem : ∀ {l : List File} {a : File}, a ∈ l → a.w ≤ File.ss l
  | b :: l, a, h => by
    rw [File.ss]
    rcases List.mem_cons.1 h with rfl | h
    · omega
    · have := File.ss_mem h; omega
end Ev
