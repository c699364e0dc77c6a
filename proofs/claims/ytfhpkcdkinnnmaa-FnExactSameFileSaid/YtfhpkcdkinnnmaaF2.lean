/- Contracts of functions of the given program, shown on the evaluator; each states its own conditions. -/
import Derived.Test.YtfhpkcdkinnnmaaF1
import Derived.Test.YtfhpkcdkinnnmaaE3
open Go Ev
open Go.Proofs
set_option maxRecDepth 100000
set_option maxHeartbeats 4000000
set_option linter.unusedVariables false
namespace Ev
theorem szEnumVal_all (a : EnumVal) (ha : a.ok) : ∀ l, 0 ≤ l → l ≤ 1048576 → Fn Try.prog [] 198 [.agg a.acells, .sc (.int .i64 l)] [] (ret [.sc (.int .i64 (dec l a.w))] []) := by
    intro l h0 h1
    obtain ⟨name, num, pos⟩ := a
    have ha : name.size ≤ 9223372036854775807 := ha
    have p_name := ha
    exact szEnumVal_ok _ l p_name h0 h1
theorem szEnumValS_all (xs : List EnumVal) (h : EnumVal.oks xs) (l : Int) (h0 : 0 ≤ l) (h1 : l ≤ 1048576) : Fn Try.prog [] 170 [.sh 3 (EnumVal.css xs), .sc (.int .i64 l)] [] (ret [.sc (.int .i64 (dec l (EnumVal.ws xs)))] []) := szEnumValS_ok xs l h.1 h0 h1 (fun x hx l h0 h1 => szEnumVal_all x (EnumVal.okl_mem h.2 x hx) l h0 h1)
theorem szField_all (a : Field) (ha : a.ok) : ∀ l, 0 ≤ l → l ≤ 1048576 → Fn Try.prog [] 197 [.agg a.acells, .sc (.int .i64 l)] [] (ret [.sc (.int .i64 (dec l a.w))] []) := by
    intro l h0 h1
    obtain ⟨name, ty, num, rep, oneof, pos⟩ := a
    have ha : name.size ≤ 9223372036854775807 ∧ ty.size ≤ 9223372036854775807 ∧ oneof.size ≤ 9223372036854775807 := ha
    obtain ⟨p_name, p_ty, p_oneof⟩ := ha
    exact szField_ok _ l p_name p_ty p_oneof h0 h1
theorem szFieldS_all (xs : List Field) (h : Field.oks xs) (l : Int) (h0 : 0 ≤ l) (h1 : l ≤ 1048576) : Fn Try.prog [] 167 [.sh 6 (Field.css xs), .sc (.int .i64 l)] [] (ret [.sc (.int .i64 (dec l (Field.ws xs)))] []) := szFieldS_ok xs l h.1 h0 h1 (fun x hx l h0 h1 => szField_all x (Field.okl_mem h.2 x hx) l h0 h1)
theorem szEnum_all (a : Enum) (ha : a.ok) : ∀ l, 0 ≤ l → l ≤ 1048576 → Fn Try.prog [] 97 [.agg a.acells, .sc (.int .i64 l)] [] (ret [.sc (.int .i64 (dec l a.w))] []) := by
    intro l h0 h1
    obtain ⟨name, vals, pos⟩ := a
    have ha : name.size ≤ 9223372036854775807 ∧ EnumVal.oks vals := ha
    obtain ⟨p_name, p_vals⟩ := ha
    exact szEnum_ok _ l p_name (fun l h0 h1 => szEnumValS_all vals p_vals l h0 h1) h0 h1
theorem szEnumS_all (xs : List Enum) (h : Enum.oks xs) (l : Int) (h0 : 0 ≤ l) (h1 : l ≤ 1048576) : Fn Try.prog [] 37 [.sh 3 (Enum.css xs), .sc (.int .i64 l)] [] (ret [.sc (.int .i64 (dec l (Enum.ws xs)))] []) := szEnumS_ok xs l h.1 h0 h1 (fun x hx l h0 h1 => szEnum_all x (Enum.okl_mem h.2 x hx) l h0 h1)
theorem szMessage_rec : ∀ (n : Nat) (a : Message), sizeOf a < n → a.ok → ∀ l, 0 ≤ l → l ≤ 1048576 → Fn Try.prog [] 96 [.agg a.acells, .sc (.int .i64 l)] [] (ret [.sc (.int .i64 (dec l a.w))] []) := by
  intro n
  induction n with
  | zero => intro a hn; omega
  | succ n ih =>
    intro a hn ha l h0 h1
    obtain ⟨name, fields, oneofs, reserved, messages, enums, pos⟩ := a
    have ha : name.size ≤ 9223372036854775807 ∧ Field.oks fields ∧ strO oneofs ∧ reserved.length ≤ 9223372036854775807 ∧ (messages.length ≤ 9223372036854775807 ∧ Message.okl messages) ∧ Enum.oks enums := ha
    obtain ⟨p_name, p_fields, p_oneofs, p_reserved, p_messages, p_enums⟩ := ha
    exact szMessage_ok _ l p_name (fun l h0 h1 => szFieldS_all fields p_fields l h0 h1) (fun l h0 h1 => szStringS_ok oneofs l p_oneofs h0 h1) (fun l h0 h1 => szIntS_ok reserved l p_reserved h0 h1) (fun l h0 h1 => szMessageS_ok messages l p_messages.1 h0 h1 (fun x hx l h0 h1 => ih x (by have := List.sizeOf_lt_of_mem hx; simp at hn; omega) (Message.okl_mem p_messages.2 x hx) l h0 h1)) (fun l h0 h1 => szEnumS_all enums p_enums l h0 h1) h0 h1
theorem szMessage_all (a : Message) (ha : a.ok) : ∀ l, 0 ≤ l → l ≤ 1048576 → Fn Try.prog [] 96 [.agg a.acells, .sc (.int .i64 l)] [] (ret [.sc (.int .i64 (dec l a.w))] []) := szMessage_rec _ a (Nat.lt_succ_self _) ha
theorem szMessageS_all (xs : List Message) (h : Message.oks xs) (l : Int) (h0 : 0 ≤ l) (h1 : l ≤ 1048576) : Fn Try.prog [] 36 [.sh 7 (Message.css xs), .sc (.int .i64 l)] [] (ret [.sc (.int .i64 (dec l (Message.ws xs)))] []) := szMessageS_ok xs l h.1 h0 h1 (fun x hx l h0 h1 => szMessage_all x (Message.okl_mem h.2 x hx) l h0 h1)
theorem szFile_all (a : File) (ha : a.ok) : ∀ l, 0 ≤ l → l ≤ 1048576 → Fn Try.prog [] 9 [.agg a.acells, .sc (.int .i64 l)] [] (ret [.sc (.int .i64 (dec l a.w))] []) := by
    intro l h0 h1
    obtain ⟨messages, enums⟩ := a
    have ha : Message.oks messages ∧ Enum.oks enums := ha
    obtain ⟨p_messages, p_enums⟩ := ha
    exact szFile_ok _ l (fun l h0 h1 => szMessageS_all messages p_messages l h0 h1) (fun l h0 h1 => szEnumS_all enums p_enums l h0 h1) h0 h1
theorem toEnumVal_all (a : EnumVal) (ha : a.w ≤ 1048576) : Fn Try.prog [] 200 [.agg a.acells] [] (ret [.agg a.ocells] []) := by
    obtain ⟨a_name, a_num, a_pos⟩ := a
    have ha : a_name.size ≤ 1048576 := ha
    exact toEnumVal_ok _ 
theorem toEnumValS_all (xs : List EnumVal) (h : EnumVal.ws xs ≤ 1048576) : Fn Try.prog [] 174 [.sh 3 (EnumVal.css xs)] [] (ret [.own true 3 (EnumVal.css xs)] []) := by
  unfold EnumVal.ws at h
  exact toEnumValS_ok xs (by omega) (fun x hx => toEnumVal_all x (by have := EnumVal.ss_mem hx; omega))
theorem toField_all (a : Field) (ha : a.w ≤ 1048576) : Fn Try.prog [] 199 [.agg a.acells] [] (ret [.agg a.ocells] []) := by
    obtain ⟨a_name, a_ty, a_num, a_rep, a_oneof, a_pos⟩ := a
    have ha : a_name.size + a_ty.size + a_oneof.size ≤ 1048576 := ha
    exact toField_ok _ 
theorem toFieldS_all (xs : List Field) (h : Field.ws xs ≤ 1048576) : Fn Try.prog [] 171 [.sh 6 (Field.css xs)] [] (ret [.own true 6 (Field.css xs)] []) := by
  unfold Field.ws at h
  exact toFieldS_ok xs (by omega) (fun x hx => toField_all x (by have := Field.ss_mem hx; omega))
theorem toEnum_all (a : Enum) (ha : a.w ≤ 1048576) : Fn Try.prog [] 99 [.agg a.acells] [] (ret [.agg a.ocells] []) := by
    obtain ⟨a_name, a_vals, a_pos⟩ := a
    have ha : a_name.size + EnumVal.ws a_vals ≤ 1048576 := ha
    exact toEnum_ok _ (toEnumValS_all a_vals (by omega))
theorem toEnumS_all (xs : List Enum) (h : Enum.ws xs ≤ 1048576) : Fn Try.prog [] 41 [.sh 3 (Enum.css xs)] [] (ret [.own true 3 (Enum.css xs)] []) := by
  unfold Enum.ws at h
  exact toEnumS_ok xs (by omega) (fun x hx => toEnum_all x (by have := Enum.ss_mem hx; omega))
theorem toMessage_rec : ∀ (n : Nat) (a : Message), sizeOf a < n → a.w ≤ 1048576 → Fn Try.prog [] 98 [.agg a.acells] [] (ret [.agg a.ocells] []) := by
  intro n
  induction n with
  | zero => intro a hn; omega
  | succ n ih =>
    intro a hn ha 
    obtain ⟨a_name, a_fields, a_oneofs, a_reserved, a_messages, a_enums, a_pos⟩ := a
    have ha : a_name.size + Field.ws a_fields + strW a_oneofs + a_reserved.length + (a_messages.length + Message.ss a_messages) + Enum.ws a_enums ≤ 1048576 := ha
    exact toMessage_ok _ (toFieldS_all a_fields (by omega)) (toStringS_ok a_oneofs (by unfold strW at ha; omega)) (toIntS_ok a_reserved (by omega)) (toMessageS_ok a_messages (by omega) (fun x hx => ih x (by have := List.sizeOf_lt_of_mem hx; simp at hn; omega) (by have := Message.ss_mem hx; omega))) (toEnumS_all a_enums (by omega))
theorem toMessage_all (a : Message) (ha : a.w ≤ 1048576) : Fn Try.prog [] 98 [.agg a.acells] [] (ret [.agg a.ocells] []) := toMessage_rec _ a (Nat.lt_succ_self _) ha
theorem toMessageS_all (xs : List Message) (h : Message.ws xs ≤ 1048576) : Fn Try.prog [] 40 [.sh 7 (Message.css xs)] [] (ret [.own true 7 (Message.css xs)] []) := by
  unfold Message.ws at h
  exact toMessageS_ok xs (by omega) (fun x hx => toMessage_all x (by have := Message.ss_mem hx; omega))
theorem toFile_all (a : File) (ha : a.w ≤ 1048576) : Fn Try.prog [] 11 [.agg a.acells] [] (ret [.agg a.ocells] []) := by
    obtain ⟨a_messages, a_enums⟩ := a
    have ha : Message.ws a_messages + Enum.ws a_enums ≤ 1048576 := ha
    exact toFile_ok _ (toMessageS_all a_messages (by omega)) (toEnumS_all a_enums (by omega))
theorem eqEnumVal_all (a : EnumVal) (ha : a.w ≤ 1048576) : ∀ b : EnumVal, Fn Try.prog [] 202 [.agg a.acells, .agg b.acells] [] (ret [.sc (.bool (eqb a b))] []) := by
    intro b
    obtain ⟨a_name, a_num, a_pos⟩ := a
    have ha : a_name.size ≤ 1048576 := ha
    obtain ⟨b_name, b_num, b_pos⟩ := b
    exact eqEnumVal_ok _ _ 
theorem eqEnumValS_all (xs ys : List EnumVal) (h : EnumVal.ws xs ≤ 1048576) : Fn Try.prog [] 178 [.sh 3 (EnumVal.css xs), .sh 3 (EnumVal.css ys)] [] (ret [.sc (.bool (eqb xs ys))] []) := by
  unfold EnumVal.ws at h
  exact eqEnumValS_ok xs ys (by omega) (fun x hx y hy => eqEnumVal_all x (by have := EnumVal.ss_mem hx; omega) y)
theorem eqField_all (a : Field) (ha : a.w ≤ 1048576) : ∀ b : Field, Fn Try.prog [] 201 [.agg a.acells, .agg b.acells] [] (ret [.sc (.bool (eqb a b))] []) := by
    intro b
    obtain ⟨a_name, a_ty, a_num, a_rep, a_oneof, a_pos⟩ := a
    have ha : a_name.size + a_ty.size + a_oneof.size ≤ 1048576 := ha
    obtain ⟨b_name, b_ty, b_num, b_rep, b_oneof, b_pos⟩ := b
    exact eqField_ok _ _ 
theorem eqFieldS_all (xs ys : List Field) (h : Field.ws xs ≤ 1048576) : Fn Try.prog [] 175 [.sh 6 (Field.css xs), .sh 6 (Field.css ys)] [] (ret [.sc (.bool (eqb xs ys))] []) := by
  unfold Field.ws at h
  exact eqFieldS_ok xs ys (by omega) (fun x hx y hy => eqField_all x (by have := Field.ss_mem hx; omega) y)
theorem eqEnum_all (a : Enum) (ha : a.w ≤ 1048576) : ∀ b : Enum, Fn Try.prog [] 106 [.agg a.acells, .agg b.acells] [] (ret [.sc (.bool (eqb a b))] []) := by
    intro b
    obtain ⟨a_name, a_vals, a_pos⟩ := a
    have ha : a_name.size + EnumVal.ws a_vals ≤ 1048576 := ha
    obtain ⟨b_name, b_vals, b_pos⟩ := b
    exact eqEnum_ok _ _ (eqEnumValS_all a_vals b_vals (by omega))
theorem eqEnumS_all (xs ys : List Enum) (h : Enum.ws xs ≤ 1048576) : Fn Try.prog [] 47 [.sh 3 (Enum.css xs), .sh 3 (Enum.css ys)] [] (ret [.sc (.bool (eqb xs ys))] []) := by
  unfold Enum.ws at h
  exact eqEnumS_ok xs ys (by omega) (fun x hx y hy => eqEnum_all x (by have := Enum.ss_mem hx; omega) y)
theorem eqMessage_rec : ∀ (n : Nat) (a : Message), sizeOf a < n → a.w ≤ 1048576 → ∀ b : Message, Fn Try.prog [] 105 [.agg a.acells, .agg b.acells] [] (ret [.sc (.bool (eqb a b))] []) := by
  intro n
  induction n with
  | zero => intro a hn; omega
  | succ n ih =>
    intro a hn ha b
    obtain ⟨a_name, a_fields, a_oneofs, a_reserved, a_messages, a_enums, a_pos⟩ := a
    have ha : a_name.size + Field.ws a_fields + strW a_oneofs + a_reserved.length + (a_messages.length + Message.ss a_messages) + Enum.ws a_enums ≤ 1048576 := ha
    obtain ⟨b_name, b_fields, b_oneofs, b_reserved, b_messages, b_enums, b_pos⟩ := b
    exact eqMessage_ok _ _ (eqFieldS_all a_fields b_fields (by omega)) (eqStringS_ok a_oneofs b_oneofs (by unfold strW at ha; omega)) (eqIntS_ok a_reserved b_reserved (by omega)) (eqMessageS_ok a_messages b_messages (by omega) (fun x hx y hy => ih x (by have := List.sizeOf_lt_of_mem hx; simp at hn; omega) (by have := Message.ss_mem hx; omega) y)) (eqEnumS_all a_enums b_enums (by omega))
theorem eqMessage_all (a : Message) (ha : a.w ≤ 1048576) : ∀ b : Message, Fn Try.prog [] 105 [.agg a.acells, .agg b.acells] [] (ret [.sc (.bool (eqb a b))] []) := eqMessage_rec _ a (Nat.lt_succ_self _) ha
theorem eqMessageS_all (xs ys : List Message) (h : Message.ws xs ≤ 1048576) : Fn Try.prog [] 46 [.sh 7 (Message.css xs), .sh 7 (Message.css ys)] [] (ret [.sc (.bool (eqb xs ys))] []) := by
  unfold Message.ws at h
  exact eqMessageS_ok xs ys (by omega) (fun x hx y hy => eqMessage_all x (by have := Message.ss_mem hx; omega) y)
theorem eqFile_all (a : File) (ha : a.w ≤ 1048576) : ∀ b : File, Fn Try.prog [] 13 [.agg a.acells, .agg b.acells] [] (ret [.sc (.bool (eqb a b))] []) := by
    intro b
    obtain ⟨a_messages, a_enums⟩ := a
    have ha : Message.ws a_messages + Enum.ws a_enums ≤ 1048576 := ha
    obtain ⟨b_messages, b_enums⟩ := b
    exact eqFile_ok _ _ (eqMessageS_all a_messages b_messages (by omega)) (eqEnumS_all a_enums b_enums (by omega))
end Ev
open Go Ev
open Go.Proofs
set_option maxRecDepth 100000
set_option maxHeartbeats 4000000
set_option linter.unusedVariables false
namespace Ev
def EnumVal.z : EnumVal → EnumVal
  | ⟨name, num, pos⟩ => ⟨name, num, 0⟩
def Field.z : Field → Field
  | ⟨name, ty, num, rep, oneof, pos⟩ => ⟨name, ty, num, rep, oneof, 0⟩
def EnumVal.zs : List EnumVal → List EnumVal
  | [] => []
  | a :: l => a.z :: EnumVal.zs l
def Field.zs : List Field → List Field
  | [] => []
  | a :: l => a.z :: Field.zs l
def Enum.z : Enum → Enum
  | ⟨name, vals, pos⟩ => ⟨name, EnumVal.zs vals, 0⟩
def Enum.zs : List Enum → List Enum
  | [] => []
  | a :: l => a.z :: Enum.zs l
mutual
def Message.z : Message → Message
  | ⟨name, fields, oneofs, reserved, messages, enums, pos⟩ => ⟨name, Field.zs fields, oneofs, reserved, Message.zs messages, Enum.zs enums, 0⟩
def Message.zs : List Message → List Message
  | [] => []
  | a :: l => a.z :: Message.zs l
end
def File.z : File → File
  | ⟨messages, enums⟩ => ⟨Message.zs messages, Enum.zs enums⟩
theorem EnumVal.zs_len : ∀ l : List EnumVal, (EnumVal.zs l).length = l.length
  | [] => rfl
  | a :: l => by rw [EnumVal.zs, List.length_cons, List.length_cons, EnumVal.zs_len l]
theorem Field.zs_len : ∀ l : List Field, (Field.zs l).length = l.length
  | [] => rfl
  | a :: l => by rw [Field.zs, List.length_cons, List.length_cons, Field.zs_len l]
theorem Enum.zs_len : ∀ l : List Enum, (Enum.zs l).length = l.length
  | [] => rfl
  | a :: l => by rw [Enum.zs, List.length_cons, List.length_cons, Enum.zs_len l]
theorem Message.zs_len : ∀ l : List Message, (Message.zs l).length = l.length
  | [] => rfl
  | a :: l => by rw [Message.zs, List.length_cons, List.length_cons, Message.zs_len l]
theorem eqb_iff {α : Type} {a b : α} {t : Bool} (h : t = true ↔ a = b) : t = eqb a b := by
  cases t with
  | true => exact (eqb_yes (h.1 rfl)).symm
  | false => exact (eqb_no (fun e => by cases h.2 e)).symm
theorem bytes_beq {a b : ByteArray} : (a.toList == b.toList) = true ↔ a = b := by rw [bytes_eq]; simp
theorem equalFuncEnumVal_ok (xs ys : List EnumVal) (hb : xs.length ≤ 1048576) (H : ∀ x ∈ xs, ∀ y ∈ ys, Fn Try.prog [] 104 [.agg x.acells, .agg y.acells] [] (ret [.sc (.bool (eqb x.z y.z))] [])) : Fn Try.prog [] 103 [.sh 3 (EnumVal.css xs), .sh 3 (EnumVal.css ys), .fn 104 []] [] (ret [.sc (.bool (eqb (EnumVal.zs xs) (EnumVal.zs ys)))] []) := by
  refine fn_of Try.func103 (by kernel_rfl) ?_
  have hlx := EnumVal.css_len xs
  have hly := EnumVal.css_len ys
  conv => whnf
  rw [hlx, hly]
  refine ifP_of (fun h => ?_) (fun h => ?_)
  · have hne : ¬ EnumVal.zs xs = EnumVal.zs ys := fun e => by
      have := congrArg List.length e
      rw [EnumVal.zs_len, EnumVal.zs_len] at this
      rw [this] at h; simp at h
    conv => whnf
    exact ⟨congrArg (fun x : Bool => [V.sc (.bool x)]) (eqb_no hne).symm, rfl⟩
  · have hlen : xs.length = ys.length := by
      simp only [bne_eq_false_iff_eq] at h; omega
    conv => whnf
    try rw [hlx]
    refine loop_of (A := Nat) (fun i => ⟨[(1, .sh 3 (EnumVal.css ys)), (2, .fn 104 []), (15, .sh 3 (EnumVal.css xs)), (16, .sc (.int .i64 xs.length)), (17, .sc (.int .i64 i))], [], 0, 32, 0⟩) (fun i => xs.length - i) (fun i => i ≤ xs.length ∧ eqb (EnumVal.zs (xs.drop i)) (EnumVal.zs (ys.drop i)) = eqb (EnumVal.zs xs) (EnumVal.zs ys)) 0 rfl ⟨Nat.zero_le _, by rw [List.drop_zero, List.drop_zero]⟩ ?_
    intro i ⟨hi, hout⟩ X ih
    conv => whnf
    refine ifP_of (fun h2 => ?_) (fun h2 => ?_)
    · have hi1 : i < xs.length := by have := of_decide_eq_true h2; omega
      have hi2 : i < ys.length := by omega
      have hx : xs.drop i = xs[i] :: xs.drop (i+1) := List.drop_eq_getElem_cons hi1
      have hy : ys.drop i = ys[i] :: ys.drop (i+1) := List.drop_eq_getElem_cons hi2
      conv => whnf
      try (refine chkP_of (by simp; done) ?_; conv => whnf)
      refine optP_of (EnumVal.css_get hi1) ?_
      conv => whnf
      try (refine chkP_of (by simp; done) ?_; conv => whnf)
      refine optP_of (EnumVal.css_get hi2) ?_
      conv => whnf
      refine Fn.use (H xs[i] (List.getElem_mem hi1) ys[i] (List.getElem_mem hi2)) ?_
      conv => whnf
      refine ⟨trivial, ?_⟩
      conv => whnf
      refine ifP_of (fun h3 => ?_) (fun h3 => ?_)
      · have h3 : ¬ xs[i].z = ys[i].z := of_eqb_no (by simpa using h3)
        conv => whnf
        exact ⟨congrArg (fun x : Bool => [V.sc (.bool x)]) (show false = eqb (EnumVal.zs xs) (EnumVal.zs ys) by rw [← hout, hx, hy, EnumVal.zs, EnumVal.zs, eqb_no (fun e => h3 (List.cons.inj e).1)]), rfl⟩
      · have h3 : xs[i].z = ys[i].z := of_eqb (by simpa using h3)
        conv => whnf
        have hw : IntKind.i64.wrap ((i : Int) + 1) = ((i + 1 : Nat) : Int) := by rw [wrap64 (by omega) (by omega)]; omega
        have h5 := ih (i+1) ⟨by omega, by rw [← hout, hx, hy, EnumVal.zs, EnumVal.zs, eqb_cons h3]⟩ (by omega)
        rw [← hw] at h5
        exact h5
    · have hi1 : ¬ i < xs.length := by have := of_decide_eq_false h2; omega
      conv => whnf
      exact ⟨congrArg (fun x : Bool => [V.sc (.bool x)]) (show true = eqb (EnumVal.zs xs) (EnumVal.zs ys) by rw [← hout, List.drop_eq_nil_of_le (by omega), List.drop_eq_nil_of_le (by omega), eqb_yes rfl]), rfl⟩
theorem equalFuncField_ok (xs ys : List Field) (hb : xs.length ≤ 1048576) (H : ∀ x ∈ xs, ∀ y ∈ ys, Fn Try.prog [] 101 [.agg x.acells, .agg y.acells] [] (ret [.sc (.bool (eqb x.z y.z))] [])) : Fn Try.prog [] 100 [.sh 6 (Field.css xs), .sh 6 (Field.css ys), .fn 101 []] [] (ret [.sc (.bool (eqb (Field.zs xs) (Field.zs ys)))] []) := by
  refine fn_of Try.func100 (by kernel_rfl) ?_
  have hlx := Field.css_len xs
  have hly := Field.css_len ys
  conv => whnf
  rw [hlx, hly]
  refine ifP_of (fun h => ?_) (fun h => ?_)
  · have hne : ¬ Field.zs xs = Field.zs ys := fun e => by
      have := congrArg List.length e
      rw [Field.zs_len, Field.zs_len] at this
      rw [this] at h; simp at h
    conv => whnf
    exact ⟨congrArg (fun x : Bool => [V.sc (.bool x)]) (eqb_no hne).symm, rfl⟩
  · have hlen : xs.length = ys.length := by
      simp only [bne_eq_false_iff_eq] at h; omega
    conv => whnf
    try rw [hlx]
    refine loop_of (A := Nat) (fun i => ⟨[(1, .sh 6 (Field.css ys)), (2, .fn 101 []), (15, .sh 6 (Field.css xs)), (16, .sc (.int .i64 xs.length)), (17, .sc (.int .i64 i))], [], 0, 32, 0⟩) (fun i => xs.length - i) (fun i => i ≤ xs.length ∧ eqb (Field.zs (xs.drop i)) (Field.zs (ys.drop i)) = eqb (Field.zs xs) (Field.zs ys)) 0 rfl ⟨Nat.zero_le _, by rw [List.drop_zero, List.drop_zero]⟩ ?_
    intro i ⟨hi, hout⟩ X ih
    conv => whnf
    refine ifP_of (fun h2 => ?_) (fun h2 => ?_)
    · have hi1 : i < xs.length := by have := of_decide_eq_true h2; omega
      have hi2 : i < ys.length := by omega
      have hx : xs.drop i = xs[i] :: xs.drop (i+1) := List.drop_eq_getElem_cons hi1
      have hy : ys.drop i = ys[i] :: ys.drop (i+1) := List.drop_eq_getElem_cons hi2
      conv => whnf
      try (refine chkP_of (by simp; done) ?_; conv => whnf)
      refine optP_of (Field.css_get hi1) ?_
      conv => whnf
      try (refine chkP_of (by simp; done) ?_; conv => whnf)
      refine optP_of (Field.css_get hi2) ?_
      conv => whnf
      refine Fn.use (H xs[i] (List.getElem_mem hi1) ys[i] (List.getElem_mem hi2)) ?_
      conv => whnf
      refine ⟨trivial, ?_⟩
      conv => whnf
      refine ifP_of (fun h3 => ?_) (fun h3 => ?_)
      · have h3 : ¬ xs[i].z = ys[i].z := of_eqb_no (by simpa using h3)
        conv => whnf
        exact ⟨congrArg (fun x : Bool => [V.sc (.bool x)]) (show false = eqb (Field.zs xs) (Field.zs ys) by rw [← hout, hx, hy, Field.zs, Field.zs, eqb_no (fun e => h3 (List.cons.inj e).1)]), rfl⟩
      · have h3 : xs[i].z = ys[i].z := of_eqb (by simpa using h3)
        conv => whnf
        have hw : IntKind.i64.wrap ((i : Int) + 1) = ((i + 1 : Nat) : Int) := by rw [wrap64 (by omega) (by omega)]; omega
        have h5 := ih (i+1) ⟨by omega, by rw [← hout, hx, hy, Field.zs, Field.zs, eqb_cons h3]⟩ (by omega)
        rw [← hw] at h5
        exact h5
    · have hi1 : ¬ i < xs.length := by have := of_decide_eq_false h2; omega
      conv => whnf
      exact ⟨congrArg (fun x : Bool => [V.sc (.bool x)]) (show true = eqb (Field.zs xs) (Field.zs ys) by rw [← hout, List.drop_eq_nil_of_le (by omega), List.drop_eq_nil_of_le (by omega), eqb_yes rfl]), rfl⟩
theorem equalFuncEnum_ok (xs ys : List Enum) (hb : xs.length ≤ 1048576) (H : ∀ x ∈ xs, ∀ y ∈ ys, Fn Try.prog [] 45 [.agg x.acells, .agg y.acells] [] (ret [.sc (.bool (eqb x.z y.z))] [])) : Fn Try.prog [] 44 [.sh 3 (Enum.css xs), .sh 3 (Enum.css ys), .fn 45 []] [] (ret [.sc (.bool (eqb (Enum.zs xs) (Enum.zs ys)))] []) := by
  refine fn_of Try.func44 (by kernel_rfl) ?_
  have hlx := Enum.css_len xs
  have hly := Enum.css_len ys
  conv => whnf
  rw [hlx, hly]
  refine ifP_of (fun h => ?_) (fun h => ?_)
  · have hne : ¬ Enum.zs xs = Enum.zs ys := fun e => by
      have := congrArg List.length e
      rw [Enum.zs_len, Enum.zs_len] at this
      rw [this] at h; simp at h
    conv => whnf
    exact ⟨congrArg (fun x : Bool => [V.sc (.bool x)]) (eqb_no hne).symm, rfl⟩
  · have hlen : xs.length = ys.length := by
      simp only [bne_eq_false_iff_eq] at h; omega
    conv => whnf
    try rw [hlx]
    refine loop_of (A := Nat) (fun i => ⟨[(1, .sh 3 (Enum.css ys)), (2, .fn 45 []), (15, .sh 3 (Enum.css xs)), (16, .sc (.int .i64 xs.length)), (17, .sc (.int .i64 i))], [], 0, 32, 0⟩) (fun i => xs.length - i) (fun i => i ≤ xs.length ∧ eqb (Enum.zs (xs.drop i)) (Enum.zs (ys.drop i)) = eqb (Enum.zs xs) (Enum.zs ys)) 0 rfl ⟨Nat.zero_le _, by rw [List.drop_zero, List.drop_zero]⟩ ?_
    intro i ⟨hi, hout⟩ X ih
    conv => whnf
    refine ifP_of (fun h2 => ?_) (fun h2 => ?_)
    · have hi1 : i < xs.length := by have := of_decide_eq_true h2; omega
      have hi2 : i < ys.length := by omega
      have hx : xs.drop i = xs[i] :: xs.drop (i+1) := List.drop_eq_getElem_cons hi1
      have hy : ys.drop i = ys[i] :: ys.drop (i+1) := List.drop_eq_getElem_cons hi2
      conv => whnf
      try (refine chkP_of (by simp; done) ?_; conv => whnf)
      refine optP_of (Enum.css_get hi1) ?_
      conv => whnf
      try (refine chkP_of (by simp; done) ?_; conv => whnf)
      refine optP_of (Enum.css_get hi2) ?_
      conv => whnf
      refine Fn.use (H xs[i] (List.getElem_mem hi1) ys[i] (List.getElem_mem hi2)) ?_
      conv => whnf
      refine ⟨trivial, ?_⟩
      conv => whnf
      refine ifP_of (fun h3 => ?_) (fun h3 => ?_)
      · have h3 : ¬ xs[i].z = ys[i].z := of_eqb_no (by simpa using h3)
        conv => whnf
        exact ⟨congrArg (fun x : Bool => [V.sc (.bool x)]) (show false = eqb (Enum.zs xs) (Enum.zs ys) by rw [← hout, hx, hy, Enum.zs, Enum.zs, eqb_no (fun e => h3 (List.cons.inj e).1)]), rfl⟩
      · have h3 : xs[i].z = ys[i].z := of_eqb (by simpa using h3)
        conv => whnf
        have hw : IntKind.i64.wrap ((i : Int) + 1) = ((i + 1 : Nat) : Int) := by rw [wrap64 (by omega) (by omega)]; omega
        have h5 := ih (i+1) ⟨by omega, by rw [← hout, hx, hy, Enum.zs, Enum.zs, eqb_cons h3]⟩ (by omega)
        rw [← hw] at h5
        exact h5
    · have hi1 : ¬ i < xs.length := by have := of_decide_eq_false h2; omega
      conv => whnf
      exact ⟨congrArg (fun x : Bool => [V.sc (.bool x)]) (show true = eqb (Enum.zs xs) (Enum.zs ys) by rw [← hout, List.drop_eq_nil_of_le (by omega), List.drop_eq_nil_of_le (by omega), eqb_yes rfl]), rfl⟩
theorem equalFuncMessage_ok (xs ys : List Message) (hb : xs.length ≤ 1048576) (H : ∀ x ∈ xs, ∀ y ∈ ys, Fn Try.prog [] 43 [.agg x.acells, .agg y.acells] [] (ret [.sc (.bool (eqb x.z y.z))] [])) : Fn Try.prog [] 42 [.sh 7 (Message.css xs), .sh 7 (Message.css ys), .fn 43 []] [] (ret [.sc (.bool (eqb (Message.zs xs) (Message.zs ys)))] []) := by
  refine fn_of Try.func42 (by kernel_rfl) ?_
  have hlx := Message.css_len xs
  have hly := Message.css_len ys
  conv => whnf
  rw [hlx, hly]
  refine ifP_of (fun h => ?_) (fun h => ?_)
  · have hne : ¬ Message.zs xs = Message.zs ys := fun e => by
      have := congrArg List.length e
      rw [Message.zs_len, Message.zs_len] at this
      rw [this] at h; simp at h
    conv => whnf
    exact ⟨congrArg (fun x : Bool => [V.sc (.bool x)]) (eqb_no hne).symm, rfl⟩
  · have hlen : xs.length = ys.length := by
      simp only [bne_eq_false_iff_eq] at h; omega
    conv => whnf
    try rw [hlx]
    refine loop_of (A := Nat) (fun i => ⟨[(1, .sh 7 (Message.css ys)), (2, .fn 43 []), (15, .sh 7 (Message.css xs)), (16, .sc (.int .i64 xs.length)), (17, .sc (.int .i64 i))], [], 0, 32, 0⟩) (fun i => xs.length - i) (fun i => i ≤ xs.length ∧ eqb (Message.zs (xs.drop i)) (Message.zs (ys.drop i)) = eqb (Message.zs xs) (Message.zs ys)) 0 rfl ⟨Nat.zero_le _, by rw [List.drop_zero, List.drop_zero]⟩ ?_
    intro i ⟨hi, hout⟩ X ih
    conv => whnf
    refine ifP_of (fun h2 => ?_) (fun h2 => ?_)
    · have hi1 : i < xs.length := by have := of_decide_eq_true h2; omega
      have hi2 : i < ys.length := by omega
      have hx : xs.drop i = xs[i] :: xs.drop (i+1) := List.drop_eq_getElem_cons hi1
      have hy : ys.drop i = ys[i] :: ys.drop (i+1) := List.drop_eq_getElem_cons hi2
      conv => whnf
      try (refine chkP_of (by simp; done) ?_; conv => whnf)
      refine optP_of (Message.css_get hi1) ?_
      conv => whnf
      try (refine chkP_of (by simp; done) ?_; conv => whnf)
      refine optP_of (Message.css_get hi2) ?_
      conv => whnf
      refine Fn.use (H xs[i] (List.getElem_mem hi1) ys[i] (List.getElem_mem hi2)) ?_
      conv => whnf
      refine ⟨trivial, ?_⟩
      conv => whnf
      refine ifP_of (fun h3 => ?_) (fun h3 => ?_)
      · have h3 : ¬ xs[i].z = ys[i].z := of_eqb_no (by simpa using h3)
        conv => whnf
        exact ⟨congrArg (fun x : Bool => [V.sc (.bool x)]) (show false = eqb (Message.zs xs) (Message.zs ys) by rw [← hout, hx, hy, Message.zs, Message.zs, eqb_no (fun e => h3 (List.cons.inj e).1)]), rfl⟩
      · have h3 : xs[i].z = ys[i].z := of_eqb (by simpa using h3)
        conv => whnf
        have hw : IntKind.i64.wrap ((i : Int) + 1) = ((i + 1 : Nat) : Int) := by rw [wrap64 (by omega) (by omega)]; omega
        have h5 := ih (i+1) ⟨by omega, by rw [← hout, hx, hy, Message.zs, Message.zs, eqb_cons h3]⟩ (by omega)
        rw [← hw] at h5
        exact h5
    · have hi1 : ¬ i < xs.length := by have := of_decide_eq_false h2; omega
      conv => whnf
      exact ⟨congrArg (fun x : Bool => [V.sc (.bool x)]) (show true = eqb (Message.zs xs) (Message.zs ys) by rw [← hout, List.drop_eq_nil_of_le (by omega), List.drop_eq_nil_of_le (by omega), eqb_yes rfl]), rfl⟩
theorem equalString_ok (xs ys : List ByteArray) (hb : xs.length ≤ 1048576) : Fn Try.prog [] 102 [.sh 1 (strC xs), .sh 1 (strC ys)] [] (ret [.sc (.bool (eqb xs ys))] []) := by
  refine fn_of Try.func102 (by kernel_rfl) ?_
  have hlx := strC_len xs
  have hly := strC_len ys
  conv => whnf
  rw [hlx, hly]
  refine ifP_of (fun h => ?_) (fun h => ?_)
  · have hne : ¬ xs = ys := fun e => by rw [e] at h; simp at h
    conv => whnf
    exact ⟨congrArg (fun x : Bool => [V.sc (.bool x)]) (eqb_no hne).symm, rfl⟩
  · have hlen : xs.length = ys.length := by
      simp only [bne_eq_false_iff_eq] at h; omega
    conv => whnf
    try rw [hlx]
    refine loop_of (A := Nat) (fun i => ⟨[(0, .sh 1 (strC xs)), (1, .sh 1 (strC ys)), (12, .sc (.int .i64 xs.length)), (13, .sc (.int .i64 i))], [], 0, 26, 0⟩) (fun i => xs.length - i) (fun i => i ≤ xs.length ∧ eqb (xs.drop i) (ys.drop i) = eqb xs ys) 0 rfl ⟨Nat.zero_le _, by rw [List.drop_zero, List.drop_zero]⟩ ?_
    intro i ⟨hi, hout⟩ X ih
    conv => whnf
    refine ifP_of (fun h2 => ?_) (fun h2 => ?_)
    · have hi1 : i < xs.length := by have := of_decide_eq_true h2; omega
      have hi2 : i < ys.length := by omega
      have hx : xs.drop i = xs[i] :: xs.drop (i+1) := List.drop_eq_getElem_cons hi1
      have hy : ys.drop i = ys[i] :: ys.drop (i+1) := List.drop_eq_getElem_cons hi2
      conv => whnf
      try (refine chkP_of (by simp; done) ?_; conv => whnf)
      refine optP_of (strC_get hi1) ?_
      conv => whnf
      try (refine chkP_of (by simp; done) ?_; conv => whnf)
      refine optP_of (strC_get hi2) ?_
      conv => whnf
      refine ifP_of (fun h3 => ?_) (fun h3 => ?_)
      · have h3 : ¬ xs[i] = ys[i] := by simpa [bytes_eq] using h3
        conv => whnf
        exact ⟨congrArg (fun x : Bool => [V.sc (.bool x)]) (show false = eqb xs ys by rw [← hout, hx, hy, eqb_no (fun e => h3 (List.cons.inj e).1)]), rfl⟩
      · have h3 : xs[i] = ys[i] := by simpa [bytes_eq] using h3
        conv => whnf
        have hw : IntKind.i64.wrap ((i : Int) + 1) = ((i + 1 : Nat) : Int) := by rw [wrap64 (by omega) (by omega)]; omega
        have h5 := ih (i+1) ⟨by omega, by rw [← hout, hx, hy, eqb_cons h3]⟩ (by omega)
        rw [← hw] at h5
        exact h5
    · have hi1 : ¬ i < xs.length := by have := of_decide_eq_false h2; omega
      conv => whnf
      exact ⟨congrArg (fun x : Bool => [V.sc (.bool x)]) (show true = eqb xs ys by rw [← hout, List.drop_eq_nil_of_le (by omega), List.drop_eq_nil_of_le (by omega), eqb_yes rfl]), rfl⟩
theorem equalInt_ok (xs ys : List Int) (hb : xs.length ≤ 1048576) : Fn Try.prog [] 59 [.sh 1 (intC xs), .sh 1 (intC ys)] [] (ret [.sc (.bool (eqb xs ys))] []) := by
  refine fn_of Try.func59 (by kernel_rfl) ?_
  have hlx := intC_len xs
  have hly := intC_len ys
  conv => whnf
  rw [hlx, hly]
  refine ifP_of (fun h => ?_) (fun h => ?_)
  · have hne : ¬ xs = ys := fun e => by rw [e] at h; simp at h
    conv => whnf
    exact ⟨congrArg (fun x : Bool => [V.sc (.bool x)]) (eqb_no hne).symm, rfl⟩
  · have hlen : xs.length = ys.length := by
      simp only [bne_eq_false_iff_eq] at h; omega
    conv => whnf
    try rw [hlx]
    refine loop_of (A := Nat) (fun i => ⟨[(0, .sh 1 (intC xs)), (1, .sh 1 (intC ys)), (12, .sc (.int .i64 xs.length)), (13, .sc (.int .i64 i))], [], 0, 26, 0⟩) (fun i => xs.length - i) (fun i => i ≤ xs.length ∧ eqb (xs.drop i) (ys.drop i) = eqb xs ys) 0 rfl ⟨Nat.zero_le _, by rw [List.drop_zero, List.drop_zero]⟩ ?_
    intro i ⟨hi, hout⟩ X ih
    conv => whnf
    refine ifP_of (fun h2 => ?_) (fun h2 => ?_)
    · have hi1 : i < xs.length := by have := of_decide_eq_true h2; omega
      have hi2 : i < ys.length := by omega
      have hx : xs.drop i = xs[i] :: xs.drop (i+1) := List.drop_eq_getElem_cons hi1
      have hy : ys.drop i = ys[i] :: ys.drop (i+1) := List.drop_eq_getElem_cons hi2
      conv => whnf
      try (refine chkP_of (by simp; done) ?_; conv => whnf)
      refine optP_of (intC_get hi1) ?_
      conv => whnf
      try (refine chkP_of (by simp; done) ?_; conv => whnf)
      refine optP_of (intC_get hi2) ?_
      conv => whnf
      refine ifP_of (fun h3 => ?_) (fun h3 => ?_)
      · have h3 : ¬ xs[i] = ys[i] := by simpa [bytes_eq] using h3
        conv => whnf
        exact ⟨congrArg (fun x : Bool => [V.sc (.bool x)]) (show false = eqb xs ys by rw [← hout, hx, hy, eqb_no (fun e => h3 (List.cons.inj e).1)]), rfl⟩
      · have h3 : xs[i] = ys[i] := by simpa [bytes_eq] using h3
        conv => whnf
        have hw : IntKind.i64.wrap ((i : Int) + 1) = ((i + 1 : Nat) : Int) := by rw [wrap64 (by omega) (by omega)]; omega
        have h5 := ih (i+1) ⟨by omega, by rw [← hout, hx, hy, eqb_cons h3]⟩ (by omega)
        rw [← hw] at h5
        exact h5
    · have hi1 : ¬ i < xs.length := by have := of_decide_eq_false h2; omega
      conv => whnf
      exact ⟨congrArg (fun x : Bool => [V.sc (.bool x)]) (show true = eqb xs ys by rw [← hout, List.drop_eq_nil_of_le (by omega), List.drop_eq_nil_of_le (by omega), eqb_yes rfl]), rfl⟩
end Ev
open Go Ev
open Go.Proofs
set_option maxRecDepth 100000
set_option maxHeartbeats 4000000
set_option linter.unusedVariables false
namespace Ev
theorem bytes_teq {a b : ByteArray} : a.toList = b.toList ↔ a = b := by rw [← bytes_beq]; simp
theorem sameEnumVal_ok (x y : EnumVal) : Fn Try.prog [] 104 [.agg x.acells, .agg y.acells] [] (ret [.sc (.bool (eqb x.z y.z))] []) := by
  obtain ⟨a1, a2, a3⟩ := x
  obtain ⟨b1, b2, b3⟩ := y
  refine fn_of Try.func104 (by kernel_rfl) ?_
  conv => whnf
  refine ifP_of (fun h => ?_) (fun h => ?_)
  · conv => whnf
    have h : a1 = b1 := bytes_beq.1 h
    exact ⟨congrArg (fun x : Bool => [V.sc (.bool x)]) (eqb_iff (by simp [EnumVal.z, h])), rfl⟩
  · conv => whnf
    have h : ¬ a1 = b1 := fun e => by have := bytes_beq.2 e; rw [this] at h; cases h
    exact ⟨congrArg (fun x : Bool => [V.sc (.bool x)]) (eqb_iff (by simp [EnumVal.z, h])), rfl⟩
theorem sameField_ok (x y : Field) : Fn Try.prog [] 101 [.agg x.acells, .agg y.acells] [] (ret [.sc (.bool (eqb x.z y.z))] []) := by
  obtain ⟨a1, a2, a3, a4, a5, a6⟩ := x
  obtain ⟨b1, b2, b3, b4, b5, b6⟩ := y
  refine fn_of Try.func101 (by kernel_rfl) ?_
  conv => whnf
  exact ⟨congrArg (fun x : Bool => [V.sc (.bool x)]) (eqb_iff (by simp [Field.z, bytes_teq])), rfl⟩
theorem sameEnum_ok (x y : Enum) (H : Fn Try.prog [] 103 [.sh 3 (EnumVal.css x.vals), .sh 3 (EnumVal.css y.vals), .fn 104 []] [] (ret [.sc (.bool (eqb (EnumVal.zs x.vals) (EnumVal.zs y.vals)))] [])) : Fn Try.prog [] 45 [.agg x.acells, .agg y.acells] [] (ret [.sc (.bool (eqb x.z y.z))] []) := by
  obtain ⟨a1, a2, a3⟩ := x
  obtain ⟨b1, b2, b3⟩ := y
  refine fn_of Try.func45 (by kernel_rfl) ?_
  conv => whnf
  refine ifP_of (fun h => ?_) (fun h => ?_)
  · conv => whnf
    have h : a1 = b1 := bytes_beq.1 h
    refine Fn.use H ?_
    conv => whnf
    refine ⟨trivial, ?_⟩
    conv => whnf
    refine ⟨congrArg (fun x : Bool => [V.sc (.bool x)]) (show eqb (EnumVal.zs a2) (EnumVal.zs b2) = _ from eqb_iff ?_), rfl⟩
    constructor
    · intro e; have e := of_eqb e; simp [Enum.z, h, e]
    · intro e; simp [Enum.z] at e; exact eqb_yes e.2
  · conv => whnf
    have h : ¬ a1 = b1 := fun e => by have := bytes_beq.2 e; rw [this] at h; cases h
    exact ⟨congrArg (fun x : Bool => [V.sc (.bool x)]) (eqb_iff (by simp [Enum.z, h])), rfl⟩
theorem sameMessage_ok (x y : Message) (hw : x.w ≤ 1048576) (H1 : Fn Try.prog [] 100 [.sh 6 (Field.css x.fields), .sh 6 (Field.css y.fields), .fn 101 []] [] (ret [.sc (.bool (eqb (Field.zs x.fields) (Field.zs y.fields)))] []))
    (H2 : Fn Try.prog [] 102 [.sh 1 (strC x.oneofs), .sh 1 (strC y.oneofs)] [] (ret [.sc (.bool (eqb x.oneofs y.oneofs))] [])) (H3 : Fn Try.prog [] 59 [.sh 1 (intC x.reserved), .sh 1 (intC y.reserved)] [] (ret [.sc (.bool (eqb x.reserved y.reserved))] []))
    (H4 : Fn Try.prog [] 42 [.sh 7 (Message.css x.messages), .sh 7 (Message.css y.messages), .fn 43 []] [] (ret [.sc (.bool (eqb (Message.zs x.messages) (Message.zs y.messages)))] []))
    (H5 : Fn Try.prog [] 44 [.sh 3 (Enum.css x.enums), .sh 3 (Enum.css y.enums), .fn 45 []] [] (ret [.sc (.bool (eqb (Enum.zs x.enums) (Enum.zs y.enums)))] [])) : Fn Try.prog [] 43 [.agg x.acells, .agg y.acells] [] (ret [.sc (.bool (eqb x.z y.z))] []) := by
  obtain ⟨a1, a2, a3, a4, a5, a6, a7⟩ := x
  obtain ⟨b1, b2, b3, b4, b5, b6, b7⟩ := y
  have key : eqb (Message.z ⟨a1, a2, a3, a4, a5, a6, a7⟩) (Message.z ⟨b1, b2, b3, b4, b5, b6, b7⟩) = (eqb a1 b1 && (eqb (Field.zs a2) (Field.zs b2) && (eqb a3 b3 && (eqb a4 b4 && (eqb (Message.zs a5) (Message.zs b5) && eqb (Enum.zs a6) (Enum.zs b6)))))) := by
    symm
    apply eqb_iff
    simp only [Bool.and_eq_true]
    constructor
    · intro ⟨h1, h2, h3, h4, h5, h6⟩
      simp only [Message.z, of_eqb h1, of_eqb h2, of_eqb h3, of_eqb h4, of_eqb h5, of_eqb h6]
    · intro h
      simp only [Message.z, Message.mk.injEq] at h
      exact ⟨eqb_yes h.1, eqb_yes h.2.1, eqb_yes h.2.2.1, eqb_yes h.2.2.2.1, eqb_yes h.2.2.2.2.1, eqb_yes h.2.2.2.2.2.1⟩
  rw [key]
  refine fn_of Try.func43 (by kernel_rfl) ?_
  conv => whnf
  refine Fn.use H1 ?_
  conv => whnf
  refine ⟨trivial, ?_⟩
  conv => whnf
  generalize eqb (Field.zs a2) (Field.zs b2) = c2
  have fin : ∀ (v : Bool), v = true ∨ v = false := fun v => by cases v <;> simp
  refine ifP_of (fun h => ?_) (fun h => ?_)
  · have h1 : eqb a1 b1 = true := eqb_yes (bytes_beq.1 h)
    rw [h1]
    conv => whnf
    refine ifP_of (fun h => ?_) (fun h => ?_)
    · subst h
      conv => whnf
      refine Fn.use H2 ?_
      conv => whnf
      refine ⟨trivial, ?_⟩
      conv => whnf
      generalize eqb a3 b3 = c3
      refine ifP_of (fun h => ?_) (fun h => ?_)
      · subst h
        conv => whnf
        refine Fn.use H3 ?_
        conv => whnf
        refine ⟨trivial, ?_⟩
        conv => whnf
        generalize eqb a4 b4 = c4
        refine ifP_of (fun h => ?_) (fun h => ?_)
        · subst h
          conv => whnf
          refine Fn.use H4 ?_
          conv => whnf
          refine ⟨trivial, ?_⟩
          conv => whnf
          generalize eqb (Message.zs a5) (Message.zs b5) = c5
          refine ifP_of (fun h => ?_) (fun h => ?_)
          · subst h
            conv => whnf
            refine Fn.use H5 ?_
            conv => whnf
            refine ⟨trivial, ?_⟩
            conv => whnf
            exact ⟨rfl, rfl⟩
          · subst h
            conv => whnf
            exact ⟨rfl, rfl⟩
        · subst h
          conv => whnf
          exact ⟨rfl, rfl⟩
      · subst h
        conv => whnf
        exact ⟨rfl, rfl⟩
    · subst h
      conv => whnf
      exact ⟨rfl, rfl⟩
  · have h1 : eqb a1 b1 = false := eqb_no (fun e => by have := bytes_beq.2 e; rw [this] at h; cases h)
    rw [h1]
    conv => whnf
    exact ⟨rfl, rfl⟩
end Ev
open Go Ev
open Go.Proofs
set_option maxRecDepth 100000
set_option maxHeartbeats 4000000
set_option linter.unusedVariables false
namespace Ev
theorem sameEnum_all (x : Enum) (hw : x.w ≤ 1048576) (y : Enum) : Fn Try.prog [] 45 [.agg x.acells, .agg y.acells] [] (ret [.sc (.bool (eqb x.z y.z))] []) := by
  refine sameEnum_ok x y (equalFuncEnumVal_ok _ _ ?_ (fun x hx y hy => sameEnumVal_ok x y))
  obtain ⟨a1, a2, a3⟩ := x
  have hw : a1.size + EnumVal.ws a2 ≤ 1048576 := hw
  unfold EnumVal.ws at hw
  show a2.length ≤ _
  omega
theorem sameMessage_rec : ∀ (n : Nat) (x : Message), sizeOf x < n → x.w ≤ 1048576 → ∀ y : Message, Fn Try.prog [] 43 [.agg x.acells, .agg y.acells] [] (ret [.sc (.bool (eqb x.z y.z))] []) := by
  intro n
  induction n with
  | zero => intro x hn; omega
  | succ n ih =>
    intro x hn hw y
    have hw0 := hw
    obtain ⟨a1, a2, a3, a4, a5, a6, a7⟩ := x
    have hw : a1.size + Field.ws a2 + strW a3 + a4.length + (a5.length + Message.ss a5) + Enum.ws a6 ≤ 1048576 := hw
    unfold Field.ws strW Enum.ws at hw
    refine sameMessage_ok _ y hw0 (equalFuncField_ok _ _ (show a2.length ≤ _ by omega) (fun x hx y hy => sameField_ok x y)) (equalString_ok _ _ (show a3.length ≤ _ by omega)) (equalInt_ok _ _ (show a4.length ≤ _ by omega)) (equalFuncMessage_ok _ _ (show a5.length ≤ _ by omega) (fun x hx y hy => ih x ?_ ?_ y)) (equalFuncEnum_ok _ _ (show a6.length ≤ _ by omega) (fun x hx y hy => sameEnum_all x ?_ y))
    · have := List.sizeOf_lt_of_mem hx; simp at hn this; omega
    · have := Message.ss_mem hx; dsimp only at this; omega
    · have := Enum.ss_mem hx; dsimp only at this; omega
theorem sameMessage_all (x : Message) (hw : x.w ≤ 1048576) (y : Message) : Fn Try.prog [] 43 [.agg x.acells, .agg y.acells] [] (ret [.sc (.bool (eqb x.z y.z))] []) := sameMessage_rec _ x (Nat.lt_succ_self _) hw y
theorem implSameFile_ok (x y : File) (hw : x.w ≤ 1048576) : Fn Try.prog [] 12 [.agg x.acells, .agg y.acells] [] (ret [.sc (.bool (eqb x.z y.z))] []) := by
  obtain ⟨a1, a2⟩ := x
  obtain ⟨b1, b2⟩ := y
  have hw : Message.ws a1 + Enum.ws a2 ≤ 1048576 := hw
  unfold Message.ws Enum.ws at hw
  have H1 := equalFuncMessage_ok a1 b1 (by omega) (fun x hx y hy => sameMessage_all x (by have := Message.ss_mem hx; omega) y)
  have H2 := equalFuncEnum_ok a2 b2 (by omega) (fun x hx y hy => sameEnum_all x (by have := Enum.ss_mem hx; omega) y)
  have key : eqb (File.z ⟨a1, a2⟩) (File.z ⟨b1, b2⟩) = (eqb (Message.zs a1) (Message.zs b1) && eqb (Enum.zs a2) (Enum.zs b2)) := by
    symm
    apply eqb_iff
    simp only [Bool.and_eq_true]
    constructor
    · intro ⟨h1, h2⟩
      simp only [File.z, of_eqb h1, of_eqb h2]
    · intro h
      simp only [File.z, File.mk.injEq] at h
      exact ⟨eqb_yes h.1, eqb_yes h.2⟩
  rw [key]
  refine fn_of Try.func12 (by kernel_rfl) ?_
  conv => whnf
  refine Fn.use H1 ?_
  conv => whnf
  refine ⟨trivial, ?_⟩
  conv => whnf
  generalize eqb (Message.zs a1) (Message.zs b1) = c1
  refine ifP_of (fun h => ?_) (fun h => ?_)
  · subst h
    conv => whnf
    refine Fn.use H2 ?_
    conv => whnf
    refine ⟨trivial, ?_⟩
    conv => whnf
    exact ⟨rfl, rfl⟩
  · subst h
    conv => whnf
    exact ⟨rfl, rfl⟩
theorem specEnum_ok (x y : Enum) (hb : x.vals.length ≤ 1048576) : Fn Try.prog [] 39 [.agg x.acells, .agg y.acells] [] (ret [.sc (.bool (eqb x.z y.z))] []) := by
  obtain ⟨a1, a2, a3⟩ := x
  obtain ⟨b1, b2, b3⟩ := y
  have hb : a2.length ≤ 1048576 := hb
  have hlx := EnumVal.css_len a2
  have hly := EnumVal.css_len b2
  have zl : ∀ l : List EnumVal, (EnumVal.zs l).length = l.length := EnumVal.zs_len
  refine fn_of Try.func39 (by kernel_rfl) ?_
  conv => whnf
  refine ifP_of (fun h => ?_) (fun h => ?_)
  · have h : ¬ a1 = b1 := fun e => by have := bytes_beq.2 e; rw [this] at h; cases h
    conv => whnf
    exact ⟨congrArg (fun x : Bool => [V.sc (.bool x)]) (eqb_iff (by simp [Enum.z, h])), rfl⟩
  · have h : a1 = b1 := by simpa [bytes_teq] using h
    subst h
    conv => whnf
    rw [hlx, hly]
    refine ifP_of (fun h => ?_) (fun h => ?_)
    · have hne : ¬ EnumVal.zs a2 = EnumVal.zs b2 := fun e => by
        have := congrArg List.length e
        rw [zl, zl] at this
        rw [this] at h; simp at h
      conv => whnf
      exact ⟨congrArg (fun x : Bool => [V.sc (.bool x)]) (eqb_iff (by simp [Enum.z, hne])), rfl⟩
    · have hlen : a2.length = b2.length := by
        simp only [bne_eq_false_iff_eq] at h; omega
      conv => whnf
      refine loop_of (A := Nat) (fun i => ⟨[(2, .ptr 0 [] 0 0), (3, .ptr 1 [] 0 0), (5, .sc (.int .i64 i))], [(0, some ⟨[[.sc (.string a1), .sh 3 (EnumVal.css a2), .sc (.int .i64 a3)]], true, 3, true⟩), (1, some ⟨[[.sc (.string a1), .sh 3 (EnumVal.css b2), .sc (.int .i64 b3)]], true, 3, true⟩)], 2, 55, 0⟩) (fun i => a2.length - i) (fun i => i ≤ a2.length ∧ eqb (EnumVal.zs (a2.drop i)) (EnumVal.zs (b2.drop i)) = eqb (EnumVal.zs a2) (EnumVal.zs b2)) 0 rfl ⟨Nat.zero_le _, by rw [List.drop_zero, List.drop_zero]⟩ ?_
      intro i ⟨hi, hout⟩ X ih
      have key : eqb (Enum.z ⟨a1, a2, a3⟩) (Enum.z ⟨a1, b2, b3⟩) = eqb (EnumVal.zs a2) (EnumVal.zs b2) := by
        symm; apply eqb_iff
        constructor
        · intro h; simp [Enum.z, of_eqb h]
        · intro h; simp [Enum.z] at h; exact eqb_yes h
      rw [key]
      conv => whnf
      refine ifP_of (fun h2 => ?_) (fun h2 => ?_)
      · have hi1 : i < a2.length := by rw [hlx] at h2; have := of_decide_eq_true h2; omega
        have hi2 : i < b2.length := by omega
        have hx : a2.drop i = a2[i] :: a2.drop (i+1) := List.drop_eq_getElem_cons hi1
        have hy : b2.drop i = b2[i] :: b2.drop (i+1) := List.drop_eq_getElem_cons hi2
        conv => whnf
        try (refine chkP_of (by simp; done) ?_; conv => whnf)
        refine optP_of (EnumVal.css_get hi1) ?_
        conv => whnf
        try (refine chkP_of (by simp; done) ?_; conv => whnf)
        refine optP_of (EnumVal.css_get hi2) ?_
        conv => whnf
        have zeq : ∀ {u v : EnumVal}, u.z = v.z ↔ u.name = v.name ∧ u.num = v.num := fun {u v} => by cases u; cases v; simp [EnumVal.z]
        refine ifP_of (fun h3 => ?_) (fun h3 => ?_)
        · have h3 : ¬ a2[i].name = b2[i].name := fun e => by have := bytes_beq.2 e; rw [this] at h3; cases h3
          conv => whnf
          exact ⟨congrArg (fun x : Bool => [V.sc (.bool x)]) (show false = eqb (EnumVal.zs a2) (EnumVal.zs b2) by rw [← hout, hx, hy, EnumVal.zs, EnumVal.zs, eqb_no (fun e => h3 (zeq.1 (List.cons.inj e).1).1)]), rfl⟩
        · have h3 : a2[i].name = b2[i].name := by simpa [bytes_teq] using h3
          conv => whnf
          refine optP_of (EnumVal.css_get hi1) ?_
          conv => whnf
          refine optP_of (EnumVal.css_get hi2) ?_
          conv => whnf
          refine ifP_of (fun h4 => ?_) (fun h4 => ?_)
          · have h4 : ¬ a2[i].num = b2[i].num := by simpa using h4
            conv => whnf
            exact ⟨congrArg (fun x : Bool => [V.sc (.bool x)]) (show false = eqb (EnumVal.zs a2) (EnumVal.zs b2) by rw [← hout, hx, hy, EnumVal.zs, EnumVal.zs, eqb_no (fun e => h4 (zeq.1 (List.cons.inj e).1).2)]), rfl⟩
          · have h4 : a2[i].num = b2[i].num := by simpa using h4
            conv => whnf
            have hw : IntKind.i64.wrap ((i : Int) + 1) = ((i + 1 : Nat) : Int) := by rw [wrap64 (by omega) (by omega)]; omega
            have h5 := ih (i+1) ⟨by omega, by rw [← hout, hx, hy, EnumVal.zs, EnumVal.zs, eqb_cons (zeq.2 ⟨h3, h4⟩)]⟩ (by omega)
            rw [← hw] at h5
            exact h5
      · have hi1 : ¬ i < a2.length := by rw [hlx] at h2; have := of_decide_eq_false h2; omega
        conv => whnf
        exact ⟨congrArg (fun x : Bool => [V.sc (.bool x)]) (show true = eqb (EnumVal.zs a2) (EnumVal.zs b2) by rw [← hout, List.drop_eq_nil_of_le (by omega), List.drop_eq_nil_of_le (by omega), eqb_yes rfl]), rfl⟩
end Ev
open Go Ev
open Go.Proofs
set_option maxRecDepth 100000
set_option maxHeartbeats 4000000
set_option linter.unusedVariables false
namespace Ev
theorem zM {a1 b1 a2 b2 a3 b3 a4 b4 a5 b5 a6 b6 a7 b7} : Message.z ⟨a1, a2, a3, a4, a5, a6, a7⟩ = Message.z ⟨b1, b2, b3, b4, b5, b6, b7⟩ ↔ a1 = b1 ∧ Field.zs a2 = Field.zs b2 ∧ a3 = b3 ∧ a4 = b4 ∧ Message.zs a5 = Message.zs b5 ∧ Enum.zs a6 = Enum.zs b6 := by simp [Message.z]
theorem specMessage_ok (x y : Message) (hw : x.w ≤ 1048576) (H5 : ∀ u ∈ x.messages, ∀ v ∈ y.messages, Fn Try.prog [] 38 [.agg u.acells, .agg v.acells] [] (ret [.sc (.bool (eqb u.z v.z))] [])) (H6 : ∀ u ∈ x.enums, ∀ v ∈ y.enums, Fn Try.prog [] 39 [.agg u.acells, .agg v.acells] [] (ret [.sc (.bool (eqb u.z v.z))] [])) : Fn Try.prog [] 38 [.agg x.acells, .agg y.acells] [] (ret [.sc (.bool (eqb x.z y.z))] []) := by
  obtain ⟨a1, a2, a3, a4, a5, a6, a7⟩ := x
  obtain ⟨b1, b2, b3, b4, b5, b6, b7⟩ := y
  have hw : a1.size + Field.ws a2 + strW a3 + a4.length + (a5.length + Message.ss a5) + Enum.ws a6 ≤ 1048576 := hw
  unfold Field.ws strW Enum.ws at hw
  dsimp only at H5 H6
  have hx2 := Field.css_len a2
  have hy2 := Field.css_len b2
  have hx3 := strC_len a3
  have hy3 := strC_len b3
  have hx4 := intC_len a4
  have hy4 := intC_len b4
  have hx5 := Message.css_len a5
  have hy5 := Message.css_len b5
  have hx6 := Enum.css_len a6
  have hy6 := Enum.css_len b6
  have no : ∀ {P : Prop}, (Message.z ⟨a1, a2, a3, a4, a5, a6, a7⟩ = Message.z ⟨b1, b2, b3, b4, b5, b6, b7⟩ → P) → ¬ P → [V.sc (.bool false)] = [V.sc (.bool (eqb (Message.z ⟨a1, a2, a3, a4, a5, a6, a7⟩) (Message.z ⟨b1, b2, b3, b4, b5, b6, b7⟩)))] := fun h hp => congrArg (fun x : Bool => [V.sc (.bool x)]) (eqb_no (fun e => hp (h e))).symm
  refine fn_of Try.func38 (by kernel_rfl) ?_
  conv => whnf
  refine ifP_of (fun h => ?_) (fun h => ?_)
  · have h : ¬ a1 = b1 := fun e => by have := bytes_beq.2 e; rw [this] at h; cases h
    conv => whnf
    exact ⟨no (fun e => (zM.1 e).1) h, rfl⟩
  · have g1 : a1 = b1 := by simpa [bytes_teq] using h
    conv => whnf
    rw [hx2, hy2]
    refine ifP_of (fun h => ?_) (fun h => ?_)
    · have hne : ¬ a2.length = b2.length := by simp at h; omega
      conv => whnf
      exact ⟨no (fun e => show a2.length = b2.length by have := congrArg List.length (zM.1 e).2.1; rw [Field.zs_len, Field.zs_len] at this; exact this) hne, rfl⟩
    · have hl2 : a2.length = b2.length := by simp only [bne_eq_false_iff_eq] at h; omega
      conv => whnf
      rw [hx3, hy3]
      refine ifP_of (fun h => ?_) (fun h => ?_)
      · have hne : ¬ a3.length = b3.length := by simp at h; omega
        conv => whnf
        exact ⟨no (fun e => show a3.length = b3.length by rw [(zM.1 e).2.2.1]) hne, rfl⟩
      · have hl3 : a3.length = b3.length := by simp only [bne_eq_false_iff_eq] at h; omega
        conv => whnf
        rw [hx4, hy4]
        refine ifP_of (fun h => ?_) (fun h => ?_)
        · have hne : ¬ a4.length = b4.length := by simp at h; omega
          conv => whnf
          exact ⟨no (fun e => show a4.length = b4.length by rw [(zM.1 e).2.2.2.1]) hne, rfl⟩
        · have hl4 : a4.length = b4.length := by simp only [bne_eq_false_iff_eq] at h; omega
          conv => whnf
          rw [hx5, hy5]
          refine ifP_of (fun h => ?_) (fun h => ?_)
          · have hne : ¬ a5.length = b5.length := by simp at h; omega
            conv => whnf
            exact ⟨no (fun e => show a5.length = b5.length by have := congrArg List.length (zM.1 e).2.2.2.2.1; rw [Message.zs_len, Message.zs_len] at this; exact this) hne, rfl⟩
          · have hl5 : a5.length = b5.length := by simp only [bne_eq_false_iff_eq] at h; omega
            conv => whnf
            rw [hx6, hy6]
            refine ifP_of (fun h => ?_) (fun h => ?_)
            · have hne : ¬ a6.length = b6.length := by simp at h; omega
              conv => whnf
              exact ⟨no (fun e => show a6.length = b6.length by have := congrArg List.length (zM.1 e).2.2.2.2.2; rw [Enum.zs_len, Enum.zs_len] at this; exact this) hne, rfl⟩
            · have hl6 : a6.length = b6.length := by simp only [bne_eq_false_iff_eq] at h; omega
              conv => whnf
              refine loop_of (A := Nat) (fun i => ⟨[(2, .ptr 0 [] 0 0), (3, .ptr 1 [] 0 0), (5, .sc (.int .i64 i))], [(0, some ⟨[[.sc (.string a1), .sh 6 (Field.css a2), .sh 1 (strC a3), .sh 1 (intC a4), .sh 7 (Message.css a5), .sh 3 (Enum.css a6), .sc (.int .i64 a7)]], true, 7, true⟩), (1, some ⟨[[.sc (.string b1), .sh 6 (Field.css b2), .sh 1 (strC b3), .sh 1 (intC b4), .sh 7 (Message.css b5), .sh 3 (Enum.css b6), .sc (.int .i64 b7)]], true, 7, true⟩)], 2, 161, 0⟩) (fun i => a2.length - i) (fun i => i ≤ a2.length ∧ eqb (Field.zs (a2.drop i)) (Field.zs (b2.drop i)) = eqb (Field.zs a2) (Field.zs b2)) 0 rfl ⟨Nat.zero_le _, by rw [List.drop_zero, List.drop_zero]⟩ ?_
              intro i ⟨hi, hout⟩ X ih
              conv => whnf
              refine ifP_of (fun h2 => ?_) (fun h2 => ?_)
              · have hi1 : i < a2.length := by rw [hx2] at h2; have := of_decide_eq_true h2; omega
                have hi2 : i < b2.length := by omega
                have hx : a2.drop i = a2[i] :: a2.drop (i+1) := List.drop_eq_getElem_cons hi1
                have hy : b2.drop i = b2[i] :: b2.drop (i+1) := List.drop_eq_getElem_cons hi2
                conv => whnf
                refine optP_of (Field.css_get hi1) ?_
                conv => whnf
                refine optP_of (Field.css_get hi2) ?_
                conv => whnf
                refine optP_of (Field.css_get hi2) ?_
                conv => whnf
                have zeq : ∀ {u v : Field}, u.z = v.z ↔ u.name = v.name ∧ u.ty = v.ty ∧ u.num = v.num ∧ u.rep = v.rep ∧ u.oneof = v.oneof := fun {u v} => by cases u; cases v; simp [Field.z]
                refine ifP_of (fun h3 => ?_) (fun h3 => ?_)
                · have h3 : ¬ a2[i].z = b2[i].z := fun e => by have := zeq.1 e; simp [this] at h3
                  conv => whnf
                  have hf : eqb (Field.zs a2) (Field.zs b2) = false := by rw [← hout, hx, hy, Field.zs, Field.zs, eqb_no (fun e => h3 (List.cons.inj e).1)]
                  exact ⟨no (fun e => (zM.1 e).2.1) (of_eqb_no hf), rfl⟩
                · have h3 : a2[i].z = b2[i].z := zeq.2 (by simpa [bytes_teq] using h3)
                  conv => whnf
                  have hw : IntKind.i64.wrap ((i : Int) + 1) = ((i + 1 : Nat) : Int) := by rw [wrap64 (by omega) (by omega)]; omega
                  have h5 := ih (i+1) ⟨by omega, by rw [← hout, hx, hy, Field.zs, Field.zs, eqb_cons h3]⟩ (by omega)
                  rw [← hw] at h5
                  exact h5
              · have hi1 : ¬ i < a2.length := by rw [hx2] at h2; have := of_decide_eq_false h2; omega
                have g2 : Field.zs a2 = Field.zs b2 := of_eqb (by rw [← hout, List.drop_eq_nil_of_le (by omega), List.drop_eq_nil_of_le (by omega), eqb_yes rfl])
                conv => whnf
                try clear hout ih hi hi1 h2 i X
                refine loop_of (A := Nat) (fun i => ⟨[(2, .ptr 0 [] 0 0), (3, .ptr 1 [] 0 0), (7, .sc (.int .i64 i))], [(0, some ⟨[[.sc (.string a1), .sh 6 (Field.css a2), .sh 1 (strC a3), .sh 1 (intC a4), .sh 7 (Message.css a5), .sh 3 (Enum.css a6), .sc (.int .i64 a7)]], true, 7, true⟩), (1, some ⟨[[.sc (.string b1), .sh 6 (Field.css b2), .sh 1 (strC b3), .sh 1 (intC b4), .sh 7 (Message.css b5), .sh 3 (Enum.css b6), .sc (.int .i64 b7)]], true, 7, true⟩)], 2, 161, 0⟩) (fun i => a3.length - i) (fun i => i ≤ a3.length ∧ eqb (a3.drop i) (b3.drop i) = eqb (a3) (b3)) 0 rfl ⟨Nat.zero_le _, by rw [List.drop_zero, List.drop_zero]⟩ ?_
                intro i ⟨hi, hout⟩ X ih
                conv => whnf
                refine ifP_of (fun h2 => ?_) (fun h2 => ?_)
                · have hi1 : i < a3.length := by rw [hx3] at h2; have := of_decide_eq_true h2; omega
                  have hi2 : i < b3.length := by omega
                  have hx : a3.drop i = a3[i] :: a3.drop (i+1) := List.drop_eq_getElem_cons hi1
                  have hy : b3.drop i = b3[i] :: b3.drop (i+1) := List.drop_eq_getElem_cons hi2
                  conv => whnf
                  refine optP_of (strC_get hi1) ?_
                  conv => whnf
                  refine optP_of (strC_get hi2) ?_
                  conv => whnf
                  refine ifP_of (fun h3 => ?_) (fun h3 => ?_)
                  · have h3 : ¬ a3[i] = b3[i] := by simpa [bytes_teq] using h3
                    conv => whnf
                    have hf : eqb (a3) (b3) = false := by rw [← hout, hx, hy, eqb_no (fun e => h3 (List.cons.inj e).1)]
                    exact ⟨no (fun e => (zM.1 e).2.2.1) (of_eqb_no hf), rfl⟩
                  · have h3 : a3[i] = b3[i] := by simpa [bytes_teq] using h3
                    conv => whnf
                    have hw : IntKind.i64.wrap ((i : Int) + 1) = ((i + 1 : Nat) : Int) := by rw [wrap64 (by omega) (by omega)]; omega
                    have h5 := ih (i+1) ⟨by omega, by rw [← hout, hx, hy, eqb_cons h3]⟩ (by omega)
                    rw [← hw] at h5
                    exact h5
                · have hi1 : ¬ i < a3.length := by rw [hx3] at h2; have := of_decide_eq_false h2; omega
                  have g3 : a3 = b3 := of_eqb (by rw [← hout, List.drop_eq_nil_of_le (by omega), List.drop_eq_nil_of_le (by omega), eqb_yes rfl])
                  conv => whnf
                  try clear hout ih hi hi1 h2 i X
                  refine loop_of (A := Nat) (fun i => ⟨[(2, .ptr 0 [] 0 0), (3, .ptr 1 [] 0 0), (8, .sc (.int .i64 i))], [(0, some ⟨[[.sc (.string a1), .sh 6 (Field.css a2), .sh 1 (strC a3), .sh 1 (intC a4), .sh 7 (Message.css a5), .sh 3 (Enum.css a6), .sc (.int .i64 a7)]], true, 7, true⟩), (1, some ⟨[[.sc (.string b1), .sh 6 (Field.css b2), .sh 1 (strC b3), .sh 1 (intC b4), .sh 7 (Message.css b5), .sh 3 (Enum.css b6), .sc (.int .i64 b7)]], true, 7, true⟩)], 2, 161, 0⟩) (fun i => a4.length - i) (fun i => i ≤ a4.length ∧ eqb (a4.drop i) (b4.drop i) = eqb (a4) (b4)) 0 rfl ⟨Nat.zero_le _, by rw [List.drop_zero, List.drop_zero]⟩ ?_
                  intro i ⟨hi, hout⟩ X ih
                  conv => whnf
                  refine ifP_of (fun h2 => ?_) (fun h2 => ?_)
                  · have hi1 : i < a4.length := by rw [hx4] at h2; have := of_decide_eq_true h2; omega
                    have hi2 : i < b4.length := by omega
                    have hx : a4.drop i = a4[i] :: a4.drop (i+1) := List.drop_eq_getElem_cons hi1
                    have hy : b4.drop i = b4[i] :: b4.drop (i+1) := List.drop_eq_getElem_cons hi2
                    conv => whnf
                    refine optP_of (intC_get hi1) ?_
                    conv => whnf
                    refine optP_of (intC_get hi2) ?_
                    conv => whnf
                    refine ifP_of (fun h3 => ?_) (fun h3 => ?_)
                    · have h3 : ¬ a4[i] = b4[i] := by simpa [bytes_teq] using h3
                      conv => whnf
                      have hf : eqb (a4) (b4) = false := by rw [← hout, hx, hy, eqb_no (fun e => h3 (List.cons.inj e).1)]
                      exact ⟨no (fun e => (zM.1 e).2.2.2.1) (of_eqb_no hf), rfl⟩
                    · have h3 : a4[i] = b4[i] := by simpa [bytes_teq] using h3
                      conv => whnf
                      have hw : IntKind.i64.wrap ((i : Int) + 1) = ((i + 1 : Nat) : Int) := by rw [wrap64 (by omega) (by omega)]; omega
                      have h5 := ih (i+1) ⟨by omega, by rw [← hout, hx, hy, eqb_cons h3]⟩ (by omega)
                      rw [← hw] at h5
                      exact h5
                  · have hi1 : ¬ i < a4.length := by rw [hx4] at h2; have := of_decide_eq_false h2; omega
                    have g4 : a4 = b4 := of_eqb (by rw [← hout, List.drop_eq_nil_of_le (by omega), List.drop_eq_nil_of_le (by omega), eqb_yes rfl])
                    conv => whnf
                    try clear hout ih hi hi1 h2 i X
                    refine loop_of (A := Nat) (fun i => ⟨[(2, .ptr 0 [] 0 0), (3, .ptr 1 [] 0 0), (9, .sc (.int .i64 i))], [(0, some ⟨[[.sc (.string a1), .sh 6 (Field.css a2), .sh 1 (strC a3), .sh 1 (intC a4), .sh 7 (Message.css a5), .sh 3 (Enum.css a6), .sc (.int .i64 a7)]], true, 7, true⟩), (1, some ⟨[[.sc (.string b1), .sh 6 (Field.css b2), .sh 1 (strC b3), .sh 1 (intC b4), .sh 7 (Message.css b5), .sh 3 (Enum.css b6), .sc (.int .i64 b7)]], true, 7, true⟩)], 2, 161, 0⟩) (fun i => a5.length - i) (fun i => i ≤ a5.length ∧ eqb (Message.zs (a5.drop i)) (Message.zs (b5.drop i)) = eqb (Message.zs a5) (Message.zs b5)) 0 rfl ⟨Nat.zero_le _, by rw [List.drop_zero, List.drop_zero]⟩ ?_
                    intro i ⟨hi, hout⟩ X ih
                    conv => whnf
                    refine ifP_of (fun h2 => ?_) (fun h2 => ?_)
                    · have hi1 : i < a5.length := by rw [hx5] at h2; have := of_decide_eq_true h2; omega
                      have hi2 : i < b5.length := by omega
                      have hx : a5.drop i = a5[i] :: a5.drop (i+1) := List.drop_eq_getElem_cons hi1
                      have hy : b5.drop i = b5[i] :: b5.drop (i+1) := List.drop_eq_getElem_cons hi2
                      conv => whnf
                      refine optP_of (Message.css_get hi1) ?_
                      conv => whnf
                      refine optP_of (Message.css_get hi2) ?_
                      conv => whnf
                      refine Fn.use (H5 a5[i] (List.getElem_mem hi1) b5[i] (List.getElem_mem hi2)) ?_
                      conv => whnf
                      refine ⟨trivial, ?_⟩
                      conv => whnf
                      refine ifP_of (fun h3 => ?_) (fun h3 => ?_)
                      · have h3 : ¬ a5[i].z = b5[i].z := of_eqb_no (by simpa using h3)
                        conv => whnf
                        have hf : eqb (Message.zs a5) (Message.zs b5) = false := by rw [← hout, hx, hy, Message.zs, Message.zs, eqb_no (fun e => h3 (List.cons.inj e).1)]
                        exact ⟨no (fun e => (zM.1 e).2.2.2.2.1) (of_eqb_no hf), rfl⟩
                      · have h3 : a5[i].z = b5[i].z := of_eqb (by simpa using h3)
                        conv => whnf
                        have hw : IntKind.i64.wrap ((i : Int) + 1) = ((i + 1 : Nat) : Int) := by rw [wrap64 (by omega) (by omega)]; omega
                        have h5 := ih (i+1) ⟨by omega, by rw [← hout, hx, hy, Message.zs, Message.zs, eqb_cons h3]⟩ (by omega)
                        rw [← hw] at h5
                        exact h5
                    · have hi1 : ¬ i < a5.length := by rw [hx5] at h2; have := of_decide_eq_false h2; omega
                      have g5 : Message.zs a5 = Message.zs b5 := of_eqb (by rw [← hout, List.drop_eq_nil_of_le (by omega), List.drop_eq_nil_of_le (by omega), eqb_yes rfl])
                      conv => whnf
                      try clear hout ih hi hi1 h2 i X
                      refine loop_of (A := Nat) (fun i => ⟨[(2, .ptr 0 [] 0 0), (3, .ptr 1 [] 0 0), (10, .sc (.int .i64 i))], [(0, some ⟨[[.sc (.string a1), .sh 6 (Field.css a2), .sh 1 (strC a3), .sh 1 (intC a4), .sh 7 (Message.css a5), .sh 3 (Enum.css a6), .sc (.int .i64 a7)]], true, 7, true⟩), (1, some ⟨[[.sc (.string b1), .sh 6 (Field.css b2), .sh 1 (strC b3), .sh 1 (intC b4), .sh 7 (Message.css b5), .sh 3 (Enum.css b6), .sc (.int .i64 b7)]], true, 7, true⟩)], 2, 161, 0⟩) (fun i => a6.length - i) (fun i => i ≤ a6.length ∧ eqb (Enum.zs (a6.drop i)) (Enum.zs (b6.drop i)) = eqb (Enum.zs a6) (Enum.zs b6)) 0 rfl ⟨Nat.zero_le _, by rw [List.drop_zero, List.drop_zero]⟩ ?_
                      intro i ⟨hi, hout⟩ X ih
                      conv => whnf
                      refine ifP_of (fun h2 => ?_) (fun h2 => ?_)
                      · have hi1 : i < a6.length := by rw [hx6] at h2; have := of_decide_eq_true h2; omega
                        have hi2 : i < b6.length := by omega
                        have hx : a6.drop i = a6[i] :: a6.drop (i+1) := List.drop_eq_getElem_cons hi1
                        have hy : b6.drop i = b6[i] :: b6.drop (i+1) := List.drop_eq_getElem_cons hi2
                        conv => whnf
                        refine optP_of (Enum.css_get hi1) ?_
                        conv => whnf
                        refine optP_of (Enum.css_get hi2) ?_
                        conv => whnf
                        refine Fn.use (H6 a6[i] (List.getElem_mem hi1) b6[i] (List.getElem_mem hi2)) ?_
                        conv => whnf
                        refine ⟨trivial, ?_⟩
                        conv => whnf
                        refine ifP_of (fun h3 => ?_) (fun h3 => ?_)
                        · have h3 : ¬ a6[i].z = b6[i].z := of_eqb_no (by simpa using h3)
                          conv => whnf
                          have hf : eqb (Enum.zs a6) (Enum.zs b6) = false := by rw [← hout, hx, hy, Enum.zs, Enum.zs, eqb_no (fun e => h3 (List.cons.inj e).1)]
                          exact ⟨no (fun e => (zM.1 e).2.2.2.2.2) (of_eqb_no hf), rfl⟩
                        · have h3 : a6[i].z = b6[i].z := of_eqb (by simpa using h3)
                          conv => whnf
                          have hw : IntKind.i64.wrap ((i : Int) + 1) = ((i + 1 : Nat) : Int) := by rw [wrap64 (by omega) (by omega)]; omega
                          have h5 := ih (i+1) ⟨by omega, by rw [← hout, hx, hy, Enum.zs, Enum.zs, eqb_cons h3]⟩ (by omega)
                          rw [← hw] at h5
                          exact h5
                      · have hi1 : ¬ i < a6.length := by rw [hx6] at h2; have := of_decide_eq_false h2; omega
                        have g6 : Enum.zs a6 = Enum.zs b6 := of_eqb (by rw [← hout, List.drop_eq_nil_of_le (by omega), List.drop_eq_nil_of_le (by omega), eqb_yes rfl])
                        conv => whnf
                        try clear hout ih hi hi1 h2 i X
                        exact ⟨congrArg (fun x : Bool => [V.sc (.bool x)]) (eqb_yes (zM.2 ⟨g1, g2, g3, g4, g5, g6⟩)).symm, rfl⟩
end Ev
open Go Ev
open Go.Proofs
set_option maxRecDepth 100000
set_option maxHeartbeats 4000000
set_option linter.unusedVariables false
namespace Ev
theorem specEnum_all (x : Enum) (hw : x.w ≤ 1048576) (y : Enum) : Fn Try.prog [] 39 [.agg x.acells, .agg y.acells] [] (ret [.sc (.bool (eqb x.z y.z))] []) := by
  refine specEnum_ok x y ?_
  obtain ⟨a1, a2, a3⟩ := x
  have hw : a1.size + EnumVal.ws a2 ≤ 1048576 := hw
  unfold EnumVal.ws at hw
  show a2.length ≤ _
  omega
theorem specMessage_rec : ∀ (n : Nat) (x : Message), sizeOf x < n → x.w ≤ 1048576 → ∀ y : Message, Fn Try.prog [] 38 [.agg x.acells, .agg y.acells] [] (ret [.sc (.bool (eqb x.z y.z))] []) := by
  intro n
  induction n with
  | zero => intro x hn; omega
  | succ n ih =>
    intro x hn hw y
    have hw0 := hw
    obtain ⟨a1, a2, a3, a4, a5, a6, a7⟩ := x
    have hw : a1.size + Field.ws a2 + strW a3 + a4.length + (a5.length + Message.ss a5) + Enum.ws a6 ≤ 1048576 := hw
    unfold Field.ws strW Enum.ws at hw
    refine specMessage_ok _ y hw0 (fun x hx y hy => ih x ?_ ?_ y) (fun x hx y hy => specEnum_all x ?_ y)
    · have := List.sizeOf_lt_of_mem hx; simp at hn this; omega
    · have := Message.ss_mem hx; dsimp only at this; omega
    · have := Enum.ss_mem hx; dsimp only at this; omega
theorem specMessage_all (x : Message) (hw : x.w ≤ 1048576) (y : Message) : Fn Try.prog [] 38 [.agg x.acells, .agg y.acells] [] (ret [.sc (.bool (eqb x.z y.z))] []) := specMessage_rec _ x (Nat.lt_succ_self _) hw y
theorem zF {a1 b1 a2 b2} : File.z ⟨a1, a2⟩ = File.z ⟨b1, b2⟩ ↔ Message.zs a1 = Message.zs b1 ∧ Enum.zs a2 = Enum.zs b2 := by simp [File.z]
theorem specSameFile_ok (x y : File) (hw : x.w ≤ 1048576) : Fn Try.prog [] 10 [.agg x.acells, .agg y.acells] [] (ret [.sc (.bool (eqb x.z y.z))] []) := by
  obtain ⟨a1, a2⟩ := x
  obtain ⟨b1, b2⟩ := y
  have hw : Message.ws a1 + Enum.ws a2 ≤ 1048576 := hw
  unfold Message.ws Enum.ws at hw
  have H1 : ∀ u ∈ a1, ∀ v ∈ b1, Fn Try.prog [] 38 [.agg u.acells, .agg v.acells] [] (ret [.sc (.bool (eqb u.z v.z))] []) := fun u hu v hv => specMessage_all u (by have := Message.ss_mem hu; omega) v
  have H2 : ∀ u ∈ a2, ∀ v ∈ b2, Fn Try.prog [] 39 [.agg u.acells, .agg v.acells] [] (ret [.sc (.bool (eqb u.z v.z))] []) := fun u hu v hv => specEnum_all u (by have := Enum.ss_mem hu; omega) v
  have hx1 := Message.css_len a1
  have hy1 := Message.css_len b1
  have hx2 := Enum.css_len a2
  have hy2 := Enum.css_len b2
  have no : ∀ {P : Prop}, (File.z ⟨a1, a2⟩ = File.z ⟨b1, b2⟩ → P) → ¬ P → [V.sc (.bool false)] = [V.sc (.bool (eqb (File.z ⟨a1, a2⟩) (File.z ⟨b1, b2⟩)))] := fun h hp => congrArg (fun x : Bool => [V.sc (.bool x)]) (eqb_no (fun e => hp (h e))).symm
  refine fn_of Try.func10 (by kernel_rfl) ?_
  conv => whnf
  rw [hx1, hy1]
  refine ifP_of (fun h => ?_) (fun h => ?_)
  · have hne : ¬ a1.length = b1.length := by simp at h; omega
    conv => whnf
    exact ⟨no (fun e => show a1.length = b1.length by have := congrArg List.length (zF.1 e).1; rw [Message.zs_len, Message.zs_len] at this; exact this) hne, rfl⟩
  · have hl1 : a1.length = b1.length := by simp only [bne_eq_false_iff_eq] at h; omega
    conv => whnf
    rw [hx2, hy2]
    refine ifP_of (fun h => ?_) (fun h => ?_)
    · have hne : ¬ a2.length = b2.length := by simp at h; omega
      conv => whnf
      exact ⟨no (fun e => show a2.length = b2.length by have := congrArg List.length (zF.1 e).2; rw [Enum.zs_len, Enum.zs_len] at this; exact this) hne, rfl⟩
    · have hl2 : a2.length = b2.length := by simp only [bne_eq_false_iff_eq] at h; omega
      conv => whnf
      refine loop_of (A := Nat) (fun i => ⟨[(2, .ptr 0 [] 0 0), (3, .ptr 1 [] 0 0), (5, .sc (.int .i64 i))], [(0, some ⟨[[.sh 7 (Message.css a1), .sh 3 (Enum.css a2)]], true, 2, true⟩), (1, some ⟨[[.sh 7 (Message.css b1), .sh 3 (Enum.css b2)]], true, 2, true⟩)], 2, 61, 0⟩) (fun i => a1.length - i) (fun i => i ≤ a1.length ∧ eqb (Message.zs (a1.drop i)) (Message.zs (b1.drop i)) = eqb (Message.zs a1) (Message.zs b1)) 0 rfl ⟨Nat.zero_le _, by rw [List.drop_zero, List.drop_zero]⟩ ?_
      intro i ⟨hi, hout⟩ X ih
      conv => whnf
      refine ifP_of (fun h2 => ?_) (fun h2 => ?_)
      · have hi1 : i < a1.length := by rw [hx1] at h2; have := of_decide_eq_true h2; omega
        have hi2 : i < b1.length := by omega
        have hx : a1.drop i = a1[i] :: a1.drop (i+1) := List.drop_eq_getElem_cons hi1
        have hy : b1.drop i = b1[i] :: b1.drop (i+1) := List.drop_eq_getElem_cons hi2
        conv => whnf
        refine optP_of (Message.css_get hi1) ?_
        conv => whnf
        refine optP_of (Message.css_get hi2) ?_
        conv => whnf
        refine Fn.use (H1 a1[i] (List.getElem_mem hi1) b1[i] (List.getElem_mem hi2)) ?_
        conv => whnf
        refine ⟨trivial, ?_⟩
        conv => whnf
        refine ifP_of (fun h3 => ?_) (fun h3 => ?_)
        · have h3 : ¬ a1[i].z = b1[i].z := of_eqb_no (by simpa using h3)
          conv => whnf
          have hf : eqb (Message.zs a1) (Message.zs b1) = false := by rw [← hout, hx, hy, Message.zs, Message.zs, eqb_no (fun e => h3 (List.cons.inj e).1)]
          exact ⟨no (fun e => (zF.1 e).1) (of_eqb_no hf), rfl⟩
        · have h3 : a1[i].z = b1[i].z := of_eqb (by simpa using h3)
          conv => whnf
          have hw : IntKind.i64.wrap ((i : Int) + 1) = ((i + 1 : Nat) : Int) := by rw [wrap64 (by omega) (by omega)]; omega
          have h5 := ih (i+1) ⟨by omega, by rw [← hout, hx, hy, Message.zs, Message.zs, eqb_cons h3]⟩ (by omega)
          rw [← hw] at h5
          exact h5
      · have hi1 : ¬ i < a1.length := by rw [hx1] at h2; have := of_decide_eq_false h2; omega
        have g1 : Message.zs a1 = Message.zs b1 := of_eqb (by rw [← hout, List.drop_eq_nil_of_le (by omega), List.drop_eq_nil_of_le (by omega), eqb_yes rfl])
        conv => whnf
        try clear hout ih hi hi1 h2 i X
        refine loop_of (A := Nat) (fun i => ⟨[(2, .ptr 0 [] 0 0), (3, .ptr 1 [] 0 0), (6, .sc (.int .i64 i))], [(0, some ⟨[[.sh 7 (Message.css a1), .sh 3 (Enum.css a2)]], true, 2, true⟩), (1, some ⟨[[.sh 7 (Message.css b1), .sh 3 (Enum.css b2)]], true, 2, true⟩)], 2, 61, 0⟩) (fun i => a2.length - i) (fun i => i ≤ a2.length ∧ eqb (Enum.zs (a2.drop i)) (Enum.zs (b2.drop i)) = eqb (Enum.zs a2) (Enum.zs b2)) 0 rfl ⟨Nat.zero_le _, by rw [List.drop_zero, List.drop_zero]⟩ ?_
        intro i ⟨hi, hout⟩ X ih
        conv => whnf
        refine ifP_of (fun h2 => ?_) (fun h2 => ?_)
        · have hi1 : i < a2.length := by rw [hx2] at h2; have := of_decide_eq_true h2; omega
          have hi2 : i < b2.length := by omega
          have hx : a2.drop i = a2[i] :: a2.drop (i+1) := List.drop_eq_getElem_cons hi1
          have hy : b2.drop i = b2[i] :: b2.drop (i+1) := List.drop_eq_getElem_cons hi2
          conv => whnf
          refine optP_of (Enum.css_get hi1) ?_
          conv => whnf
          refine optP_of (Enum.css_get hi2) ?_
          conv => whnf
          refine Fn.use (H2 a2[i] (List.getElem_mem hi1) b2[i] (List.getElem_mem hi2)) ?_
          conv => whnf
          refine ⟨trivial, ?_⟩
          conv => whnf
          refine ifP_of (fun h3 => ?_) (fun h3 => ?_)
          · have h3 : ¬ a2[i].z = b2[i].z := of_eqb_no (by simpa using h3)
            conv => whnf
            have hf : eqb (Enum.zs a2) (Enum.zs b2) = false := by rw [← hout, hx, hy, Enum.zs, Enum.zs, eqb_no (fun e => h3 (List.cons.inj e).1)]
            exact ⟨no (fun e => (zF.1 e).2) (of_eqb_no hf), rfl⟩
          · have h3 : a2[i].z = b2[i].z := of_eqb (by simpa using h3)
            conv => whnf
            have hw : IntKind.i64.wrap ((i : Int) + 1) = ((i + 1 : Nat) : Int) := by rw [wrap64 (by omega) (by omega)]; omega
            have h5 := ih (i+1) ⟨by omega, by rw [← hout, hx, hy, Enum.zs, Enum.zs, eqb_cons h3]⟩ (by omega)
            rw [← hw] at h5
            exact h5
        · have hi1 : ¬ i < a2.length := by rw [hx2] at h2; have := of_decide_eq_false h2; omega
          have g2 : Enum.zs a2 = Enum.zs b2 := of_eqb (by rw [← hout, List.drop_eq_nil_of_le (by omega), List.drop_eq_nil_of_le (by omega), eqb_yes rfl])
          conv => whnf
          try clear hout ih hi hi1 h2 i X
          exact ⟨congrArg (fun x : Bool => [V.sc (.bool x)]) (eqb_yes (zF.2 ⟨g1, g2⟩)).symm, rfl⟩
end Ev
open Go Ev
open Go.Proofs
set_option maxRecDepth 100000
set_option maxHeartbeats 4000000
set_option linter.unusedVariables false
namespace Ev
theorem clr_sc (x : Value) : ClR [.sc x] := fun v hv => by
  obtain rfl := List.mem_singleton.1 hv
  exact ⟨.sc _ x, fun vs e => by cases e⟩
theorem lawSameFile (x y : File) (hx : x.ok) (hy : y.ok) : Fn Try.prog [] 3 [.agg x.acells, .agg y.acells] [] (ret [.sc (.bool true)] []) := by
  refine fn_of Try.func3 (by kernel_rfl) ?_
  conv => whnf
  refine Fn.use (szFile_all x hx 1048576 (by omega) (by omega)) ?_
  conv => whnf
  refine ⟨trivial, ?_⟩
  conv => whnf
  generalize hd1 : dec 1048576 x.w = d1
  refine ifP_of (fun h => ?_) (fun h => ?_)
  · conv => whnf
    exact ⟨rfl, rfl⟩
  · obtain ⟨h1, e1⟩ := dec_ge hd1 (of_decide_eq_false h)
    have hxw : x.w ≤ 1048576 := by omega
    conv => whnf
    refine Fn.use (szFile_all y hy d1 (by omega) (by omega)) ?_
    conv => whnf
    refine ⟨trivial, ?_⟩
    conv => whnf
    generalize hd2 : dec d1 y.w = d2
    refine ifP_of (fun h => ?_) (fun h => ?_)
    · conv => whnf
      exact ⟨rfl, rfl⟩
    · obtain ⟨h2, e2⟩ := dec_ge hd2 (of_decide_eq_false h)
      have hyw : y.w ≤ 1048576 := by omega
      have TX := toFile_all x hxw
      have TY := toFile_all y hyw
      conv => whnf
      refine Fn.use TX ?_
      conv => whnf
      refine ⟨trivial, ?_⟩
      conv => whnf
      refine Fn.use TY ?_
      conv => whnf
      refine ⟨trivial, ?_⟩
      conv => whnf
      refine Fn.use (specSameFile_ok x y hxw) ?_
      conv => whnf
      refine ⟨⟨rfl, clr_sc _⟩, ?_⟩
      conv => whnf
      refine Fn.use TX ?_
      conv => whnf
      refine ⟨trivial, ?_⟩
      conv => whnf
      refine Fn.use TY ?_
      conv => whnf
      refine ⟨trivial, ?_⟩
      conv => whnf
      refine Fn.use (implSameFile_ok x y hxw) ?_
      conv => whnf
      refine ⟨⟨rfl, clr_sc _⟩, ?_⟩
      conv => whnf
      generalize eqb x.z y.z = c
      refine ifP_of (fun h => ?_) (fun h => ?_)
      · simp at h
      · conv => whnf
        refine Fn.use TX ?_
        conv => whnf
        refine ⟨trivial, ?_⟩
        conv => whnf
        refine Fn.use (eqFile_all x hxw x) ?_
        conv => whnf
        refine ⟨⟨rfl, clr_sc _⟩, ?_⟩
        conv => whnf
        rw [eqb_yes rfl]
        conv => whnf
        refine Fn.use TY ?_
        conv => whnf
        refine ⟨trivial, ?_⟩
        conv => whnf
        refine Fn.use (eqFile_all y hyw y) ?_
        conv => whnf
        refine ⟨⟨rfl, clr_sc _⟩, ?_⟩
        conv => whnf
        rw [eqb_yes rfl]
        conv => whnf
        exact ⟨rfl, rfl⟩
end Ev
open Go Ev Go.ChangeShapes Go.WideShapes Go.RowKit Go.Deep
open Go.Proofs
set_option maxRecDepth 100000
set_option maxHeartbeats 4000000
set_option linter.unusedVariables false
namespace Ev
theorem leM {n : Nat} (h : n ≤ maxLen) : n ≤ 9223372036854775807 := Nat.le_trans h (by decide)
theorem EnumVal.css_map : ∀ l : List EnumVal, EnumVal.css l = l.map EnumVal.cs
  | [] => rfl
  | a :: l => by rw [EnumVal.css, List.map_cons, EnumVal.css_map l]
theorem EnumVal.okl_of : ∀ {l : List EnumVal}, (∀ a ∈ l, a.ok) → EnumVal.okl l
  | [], _ => by rw [EnumVal.okl]; trivial
  | a :: l, h => by rw [EnumVal.okl]; exact ⟨h a (List.mem_cons_self ..), EnumVal.okl_of (fun b hb => h b (List.mem_cons_of_mem _ hb))⟩
theorem Field.css_map : ∀ l : List Field, Field.css l = l.map Field.cs
  | [] => rfl
  | a :: l => by rw [Field.css, List.map_cons, Field.css_map l]
theorem Field.okl_of : ∀ {l : List Field}, (∀ a ∈ l, a.ok) → Field.okl l
  | [], _ => by rw [Field.okl]; trivial
  | a :: l, h => by rw [Field.okl]; exact ⟨h a (List.mem_cons_self ..), Field.okl_of (fun b hb => h b (List.mem_cons_of_mem _ hb))⟩
theorem Enum.css_map : ∀ l : List Enum, Enum.css l = l.map Enum.cs
  | [] => rfl
  | a :: l => by rw [Enum.css, List.map_cons, Enum.css_map l]
theorem Enum.okl_of : ∀ {l : List Enum}, (∀ a ∈ l, a.ok) → Enum.okl l
  | [], _ => by rw [Enum.okl]; trivial
  | a :: l, h => by rw [Enum.okl]; exact ⟨h a (List.mem_cons_self ..), Enum.okl_of (fun b hb => h b (List.mem_cons_of_mem _ hb))⟩
theorem Message.css_map : ∀ l : List Message, Message.css l = l.map Message.cs
  | [] => rfl
  | a :: l => by rw [Message.css, List.map_cons, Message.css_map l]
theorem Message.okl_of : ∀ {l : List Message}, (∀ a ∈ l, a.ok) → Message.okl l
  | [], _ => by rw [Message.okl]; trivial
  | a :: l, h => by rw [Message.okl]; exact ⟨h a (List.mem_cons_self ..), Message.okl_of (fun b hb => h b (List.mem_cons_of_mem _ hb))⟩
theorem File.css_map : ∀ l : List File, File.css l = l.map File.cs
  | [] => rfl
  | a :: l => by rw [File.css, List.map_cons, File.css_map l]
theorem File.okl_of : ∀ {l : List File}, (∀ a ∈ l, a.ok) → File.okl l
  | [], _ => by rw [File.okl]; trivial
  | a :: l, h => by rw [File.okl]; exact ⟨h a (List.mem_cons_self ..), File.okl_of (fun b hb => h b (List.mem_cons_of_mem _ hb))⟩
set_option maxRecDepth 100000 in
theorem opEnumVal (N : Nat) : OpV Try.prog N 226 3 EnumVal.cs EnumVal.ok := by
  refine opv_as (fun y => (⟨y.1, y.2.1, y.2.2⟩ : EnumVal)) (fun y hy => ?_) (fun y => ?_) (opv_struct Try.underlying226 (by kernel_rfl) (fun M hM => opvf_cons rfl (opv_string Try.underlying9 (by kernel_rfl)) rfl (opvf_cons rfl (opv_int Try.underlying3 (by kernel_rfl)) rfl (opvf_last rfl (opv_int Try.underlying3 (by kernel_rfl))))))
  · exact leM hy.1
  · rw [EnumVal.cs]; rfl
set_option maxRecDepth 100000 in
theorem opField (N : Nat) : OpV Try.prog N 224 6 Field.cs Field.ok := by
  refine opv_as (fun y => (⟨y.1, y.2.1, y.2.2.1, y.2.2.2.1, y.2.2.2.2.1, y.2.2.2.2.2⟩ : Field)) (fun y hy => ?_) (fun y => ?_) (opv_struct Try.underlying224 (by kernel_rfl) (fun M hM => opvf_cons rfl (opv_string Try.underlying9 (by kernel_rfl)) rfl (opvf_cons rfl (opv_string Try.underlying9 (by kernel_rfl)) rfl (opvf_cons rfl (opv_int Try.underlying3 (by kernel_rfl)) rfl (opvf_cons rfl (opv_bool Try.underlying4 (by kernel_rfl)) rfl (opvf_cons rfl (opv_string Try.underlying9 (by kernel_rfl)) rfl (opvf_last rfl (opv_int Try.underlying3 (by kernel_rfl)))))))))
  · exact ⟨leM hy.1, leM hy.2.1, leM hy.2.2.2.2.1⟩
  · rw [Field.cs]; rfl
set_option maxRecDepth 100000 in
theorem opEnum (N : Nat) : OpV Try.prog N 146 3 Enum.cs Enum.ok := by
  refine opv_as (fun y => (⟨y.1, y.2.1, y.2.2⟩ : Enum)) (fun y hy => ?_) (fun y => ?_) (opv_struct Try.underlying146 (by kernel_rfl) (fun M hM => opvf_cons rfl (opv_string Try.underlying9 (by kernel_rfl)) rfl (opvf_cons rfl (opv_slice Try.underlying144 (by kernel_rfl) (by decide) (fun M2 hM2 => opEnumVal M2)) rfl (opvf_last rfl (opv_int Try.underlying3 (by kernel_rfl))))))
  · exact ⟨leM hy.1, ⟨leM hy.2.1.1, EnumVal.okl_of hy.2.1.2⟩⟩
  · rw [Enum.cs, EnumVal.css_map]; rfl
set_option maxRecDepth 100000 in
theorem opMessage : ∀ N, OpV Try.prog N 142 7 Message.cs Message.ok := by
  intro N
  induction N using Nat.strongRecOn with
  | _ N ih =>
    refine opv_as (fun y => (⟨y.1, y.2.1, y.2.2.1, y.2.2.2.1, y.2.2.2.2.1, y.2.2.2.2.2.1, y.2.2.2.2.2.2⟩ : Message)) (fun y hy => ?_) (fun y => ?_) (opv_struct Try.underlying142 (by kernel_rfl) (fun M hM => opvf_cons rfl (opv_string Try.underlying9 (by kernel_rfl)) rfl (opvf_cons rfl (opv_slice Try.underlying140 (by kernel_rfl) (by decide) (fun M2 hM2 => opField M2)) rfl (opvf_cons rfl (opv_slice Try.underlying66 (by kernel_rfl) (by decide) (fun M2 hM2 => opv_string Try.underlying9 (by kernel_rfl))) rfl (opvf_cons rfl (opv_slice Try.underlying67 (by kernel_rfl) (by decide) (fun M2 hM2 => opv_int Try.underlying3 (by kernel_rfl))) rfl (opvf_cons rfl (opv_slice Try.underlying22 (by kernel_rfl) (by decide) (fun M2 hM2 => ih M2 (by omega))) rfl (opvf_cons rfl (opv_slice Try.underlying23 (by kernel_rfl) (by decide) (fun M2 hM2 => opEnum M2)) rfl (opvf_last rfl (opv_int Try.underlying3 (by kernel_rfl))))))))))
    · exact (by rw [Message.ok]; exact ⟨leM hy.1, ⟨leM hy.2.1.1, Field.okl_of hy.2.1.2⟩, ⟨leM hy.2.2.1.1, fun b hb => leM (hy.2.2.1.2 b hb)⟩, leM hy.2.2.2.1.1, ⟨leM hy.2.2.2.2.1.1, Message.okl_of hy.2.2.2.2.1.2⟩, ⟨leM hy.2.2.2.2.2.1.1, Enum.okl_of hy.2.2.2.2.2.1.2⟩⟩)
    · rw [Message.cs, Field.css_map, Message.css_map, Enum.css_map]; rfl
set_option maxRecDepth 100000 in
theorem opFile (N : Nat) : OpV Try.prog N 25 2 File.cs File.ok := by
  refine opv_as (fun y => (⟨y.1, y.2⟩ : File)) (fun y hy => ?_) (fun y => ?_) (opv_struct Try.underlying25 (by kernel_rfl) (fun M hM => opvf_cons rfl (opv_slice Try.underlying22 (by kernel_rfl) (by decide) (fun M2 hM2 => opMessage M2)) rfl (opvf_last rfl (opv_slice Try.underlying23 (by kernel_rfl) (by decide) (fun M2 hM2 => opEnum M2)))))
  · exact ⟨⟨leM hy.1.1, Message.okl_of hy.1.2⟩, ⟨leM hy.2.1, Enum.okl_of hy.2.2⟩⟩
  · rw [File.cs, Message.css_map, Enum.css_map]; rfl
end Ev
