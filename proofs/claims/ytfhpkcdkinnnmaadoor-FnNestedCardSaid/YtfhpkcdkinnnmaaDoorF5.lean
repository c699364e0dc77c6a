/- Contracts of functions of the given program, shown on the evaluator; each states its own conditions. -/
import Derived.Test.YtfhpkcdkinnnmaaDoorF4
open Go Ev
open Go.Proofs
set_option maxRecDepth 100000
set_option maxHeartbeats 4000000
set_option linter.unusedVariables false
namespace Ev
/-- Whether letters, and digits but at the front, stand from here on. -/
def nameFrom (s : ByteArray) : Nat → Nat → Bool
  | 0, _ => true
  | n + 1, i => (letterB (byteN s i) || (!(i == 0) && digitB (byteN s i))) && nameFrom s n (i + 1)
def nameB (s : ByteArray) : Bool := nameFrom s s.size 0 && !decide (s = .empty)
theorem implNameOk (s : ByteArray) (hs : s.size ≤ 140737488355328) : Fn Tryd.prog [] 67 [.sc (.string s)] [] (ret [.sc (.bool (nameB s))] []) := by
  have hR : (nameFrom s (s.size - 0) 0 && !decide (s = .empty)) = nameB s := rfl
  generalize nameB s = R at *
  refine fn_of Tryd.func67 (by kernel_rfl) ?_
  conv => whnf
  refine loop_of (A := Nat) (fun i => ⟨[(0, .sc (.string s)), (3, .sc (.int .i64 i))], [], 0, 28, 0⟩) (fun i => s.size - i) (fun i => i ≤ s.size ∧ (nameFrom s (s.size - i) i && !decide (s = .empty)) = R) 0 rfl ⟨Nat.zero_le _, hR⟩ ?_
  intro i ⟨hi, hR⟩ X ih
  conv => whnf
  refine ifP_of (fun h1 => ?_) (fun h1 => ?_)
  rotate_left
  · have h1 : ¬ i < s.size := by have := of_decide_eq_false h1; omega
    rw [show s.size - i = 0 by omega, nameFrom, Bool.true_and] at hR
    conv => whnf
    refine ⟨bl ?_, rfl⟩
    rw [bytes_eq]
    exact hR
  have h1 : i < s.size := by have := of_decide_eq_true h1; omega
  have hlt : decide (((i : Nat) : Int) < (s.size : Int)) = true := decide_eq_true (by omega)
  have hw : IntKind.i64.wrap ((i : Int) + 1) = ((i + 1 : Nat) : Int) := by rw [wrap64 (by omega) (by omega)]; omega
  have ih := ih (i + 1)
  rw [show s.size - i = (s.size - (i + 1)) + 1 by omega, nameFrom] at hR
  have hc : byteAt s (i : Int) = byteN s i := rfl
  generalize hb0 : byteN s i = c at *
  have HL := implLetter c
  have HD := implDigit c
  generalize letterB c = a at *
  generalize digitB c = b at *
  conv => whnf
  refine chkP_of ?hchk ?_
  case hchk => first | exact decide_eq_true (by omega) | (simp; done) | (simp; omega) | exact hlt
  conv => whnf
  rw [hc]
  refine Fn.use (HL) ?_
  conv => whnf
  first | refine ⟨trivial, ?_⟩ | refine ⟨⟨rfl, clr_of rfl⟩, ?_⟩
  conv => whnf
  cases a with
  | true =>
    rw [Bool.true_or, Bool.true_and] at hR
    have fin := ih ⟨by omega, hR⟩ (by omega)
    rw [← hw] at fin
    conv => whnf
    exact fin
  | false =>
    rw [Bool.false_or] at hR
    conv => whnf
    refine ifP_of (fun h2 => ?_) (fun h2 => ?_)
    · have h2 : i = 0 := by have h2 : ((i : Int) == 0) = true := h2; simpa using h2
      subst h2
      have hR : false = R := by rw [← hR]; rfl
      subst hR
      conv => whnf
      exact ⟨rfl, rfl⟩
    have h2 : (i == 0) = false := by have h2 : ((i : Int) == 0) = false := h2; simp at h2 ⊢; omega
    rw [h2, Bool.not_false, Bool.true_and] at hR
    conv => whnf
    refine chkP_of ?hchk ?_
    case hchk => first | exact decide_eq_true (by omega) | (simp; done) | (simp; omega) | exact hlt
    conv => whnf
    rw [hc]
    refine Fn.use (HD) ?_
    conv => whnf
    first | refine ⟨trivial, ?_⟩ | refine ⟨⟨rfl, clr_of rfl⟩, ?_⟩
    conv => whnf
    cases b with
    | true =>
      rw [Bool.true_and] at hR
      have fin := ih ⟨by omega, hR⟩ (by omega)
      rw [← hw] at fin
      conv => whnf
      exact fin
    | false =>
      have hR : false = R := by rw [← hR]; rfl
      subst hR
      conv => whnf
      exact ⟨rfl, rfl⟩
end Ev
open Go Ev
open Go.Proofs
set_option maxRecDepth 100000
set_option maxHeartbeats 4000000
set_option linter.unusedVariables false
namespace Ev
def nameA : ByteArray := ⟨#[65]⟩
theorem idxEnum42 : Fn Tryd.prog [] 76 [.sh 3 [], .fn 42 []] [] (ret [.sc (.int .i64 (-1))] []) := by
  refine fn_of Tryd.func76 (by kernel_rfl) ?_
  conv => whnf
  refine loop_of (A := Unit) (fun _ => ⟨[(0, .sh 3 []), (1, .fn 42 []), (7, .sc (.int .i64 0)), (8, .sc (.int .i64 0))], [], 0, 19, 0⟩) (fun _ => 0) (fun _ => True) () rfl trivial ?_
  intro _ _ X ih
  conv => whnf
  exact ⟨rfl, rfl⟩
theorem conEnum42 : Fn Tryd.prog [] 41 [.sh 3 [], .fn 42 []] [] (ret [.sc (.bool false)] []) := by
  have H := idxEnum42
  refine fn_of Tryd.func41 (by kernel_rfl) ?_
  conv => whnf
  refine Fn.use (H) ?_
  conv => whnf
  first | refine ⟨trivial, ?_⟩ | refine ⟨⟨rfl, clr_of rfl⟩, ?_⟩
  conv => whnf
  exact ⟨rfl, rfl⟩
theorem idxEnum75 : Fn Tryd.prog [] 76 [.sh 3 [], .fn 75 []] [] (ret [.sc (.int .i64 (-1))] []) := by
  refine fn_of Tryd.func76 (by kernel_rfl) ?_
  conv => whnf
  refine loop_of (A := Unit) (fun _ => ⟨[(0, .sh 3 []), (1, .fn 75 []), (7, .sc (.int .i64 0)), (8, .sc (.int .i64 0))], [], 0, 19, 0⟩) (fun _ => 0) (fun _ => True) () rfl trivial ?_
  intro _ _ X ih
  conv => whnf
  exact ⟨rfl, rfl⟩
theorem conEnum75 : Fn Tryd.prog [] 41 [.sh 3 [], .fn 75 []] [] (ret [.sc (.bool false)] []) := by
  have H := idxEnum75
  refine fn_of Tryd.func41 (by kernel_rfl) ?_
  conv => whnf
  refine Fn.use (H) ?_
  conv => whnf
  first | refine ⟨trivial, ?_⟩ | refine ⟨⟨rfl, clr_of rfl⟩, ?_⟩
  conv => whnf
  exact ⟨rfl, rfl⟩
theorem idxField70 : Fn Tryd.prog [] 92 [.sh 6 [], .fn 70 []] [] (ret [.sc (.int .i64 (-1))] []) := by
  refine fn_of Tryd.func92 (by kernel_rfl) ?_
  conv => whnf
  refine loop_of (A := Unit) (fun _ => ⟨[(0, .sh 6 []), (1, .fn 70 []), (7, .sc (.int .i64 0)), (8, .sc (.int .i64 0))], [], 0, 19, 0⟩) (fun _ => 0) (fun _ => True) () rfl trivial ?_
  intro _ _ X ih
  conv => whnf
  exact ⟨rfl, rfl⟩
theorem conField70 : Fn Tryd.prog [] 69 [.sh 6 [], .fn 70 []] [] (ret [.sc (.bool false)] []) := by
  have H := idxField70
  refine fn_of Tryd.func69 (by kernel_rfl) ?_
  conv => whnf
  refine Fn.use (H) ?_
  conv => whnf
  first | refine ⟨trivial, ?_⟩ | refine ⟨⟨rfl, clr_of rfl⟩, ?_⟩
  conv => whnf
  exact ⟨rfl, rfl⟩
theorem idxInt73 : Fn Tryd.prog [] 95 [.sh 1 [], .fn 73 []] [] (ret [.sc (.int .i64 (-1))] []) := by
  refine fn_of Tryd.func95 (by kernel_rfl) ?_
  conv => whnf
  refine loop_of (A := Unit) (fun _ => ⟨[(0, .sh 1 []), (1, .fn 73 []), (7, .sc (.int .i64 0)), (8, .sc (.int .i64 0))], [], 0, 19, 0⟩) (fun _ => 0) (fun _ => True) () rfl trivial ?_
  intro _ _ X ih
  conv => whnf
  exact ⟨rfl, rfl⟩
theorem conInt73 : Fn Tryd.prog [] 72 [.sh 1 [], .fn 73 []] [] (ret [.sc (.bool false)] []) := by
  have H := idxInt73
  refine fn_of Tryd.func72 (by kernel_rfl) ?_
  conv => whnf
  refine Fn.use (H) ?_
  conv => whnf
  first | refine ⟨trivial, ?_⟩ | refine ⟨⟨rfl, clr_of rfl⟩, ?_⟩
  conv => whnf
  exact ⟨rfl, rfl⟩
theorem idxMsg74 (d : Int) : Fn Tryd.prog [] 66 [.sh 7 [], .fn 74 [.shp [.sc (.int .i64 d)]]] [] (ret [.sc (.int .i64 (-1))] []) := by
  refine fn_of Tryd.func66 (by kernel_rfl) ?_
  conv => whnf
  refine loop_of (A := Unit) (fun _ => ⟨[(0, .sh 7 []), (1, .fn 74 [.shp [.sc (.int .i64 d)]]), (7, .sc (.int .i64 0)), (8, .sc (.int .i64 0))], [], 0, 19, 0⟩) (fun _ => 0) (fun _ => True) () rfl trivial ?_
  intro _ _ X ih
  conv => whnf
  exact ⟨rfl, rfl⟩
theorem conMsg74 (d : Int) : Fn Tryd.prog [] 38 [.sh 7 [], .fn 74 [.shp [.sc (.int .i64 d)]]] [] (ret [.sc (.bool false)] []) := by
  have H := idxMsg74 d
  refine fn_of Tryd.func38 (by kernel_rfl) ?_
  conv => whnf
  refine Fn.use (H) ?_
  conv => whnf
  first | refine ⟨trivial, ?_⟩ | refine ⟨⟨rfl, clr_of rfl⟩, ?_⟩
  conv => whnf
  exact ⟨rfl, rfl⟩
theorem implOneofs0 (name : ByteArray) (ms : List Message) (es : List Enum) (pos : Int) : Fn Tryd.prog [] 68 [.agg (Message.acells ⟨name, [], [], [], ms, es, pos⟩)] [] (ret [.sc (.bool true)] []) := by
  refine fn_of Tryd.func68 d68 ?_
  conv => whnf
  refine loop_of (A := Unit) (fun _ => ⟨[(1, .ptr 0 [] 0 0), (10, .sh 1 []), (11, .sc (.int .i64 0)), (12, .sc (.int .i64 0))], [(0, some ⟨[[.sc (.string name), .sh 6 [], .sh 1 [], .sh 1 [], .sh 7 (Message.css ms), .sh 3 (Enum.css es), .sc (.int .i64 pos)]], true, 7, true⟩)], 1, 66, 0⟩) (fun _ => 0) (fun _ => True) () rfl trivial ?_
  intro _ _ X ih
  conv => whnf
  refine loop_of (A := Unit) (fun _ => ⟨[(1, .ptr 0 [] 0 0), (5, .sc (.int .i64 (-1))), (30, .sh 6 []), (31, .sc (.int .i64 0)), (32, .sc (.int .i64 0))], [(0, some ⟨[[.sc (.string name), .sh 6 [], .sh 1 [], .sh 1 [], .sh 7 (Message.css ms), .sh 3 (Enum.css es), .sc (.int .i64 pos)]], true, 7, true⟩)], 1, 66, 0⟩) (fun _ => 0) (fun _ => True) () rfl trivial ?_
  intro _ _ Y ih2
  conv => whnf
  exact ⟨rfl, rfl⟩
theorem closure74 (m : Message) (d : Int) (h0 : 0 ≤ d) (h8 : d ≤ 8) (H : Fn Tryd.prog [] 40 [.agg m.acells, .sc (.int .i64 (d + 1))] [] (ret [.sc (.bool true)] [])) : Fn Tryd.prog [] 74 [.agg m.acells, .shp [.sc (.int .i64 d)]] [] (ret [.sc (.bool false)] []) := by
  obtain ⟨name, fields, oneofs, reserved, messages, enums, pos⟩ := m
  have hw : IntKind.i64.wrap (d + 1) = d + 1 := wrap64 (by omega) (by omega)
  refine fn_of Tryd.func74 (by kernel_rfl) ?_
  conv => whnf
  rw [hw]
  refine Fn.use (H) ?_
  conv => whnf
  first | refine ⟨trivial, ?_⟩ | refine ⟨⟨rfl, clr_of rfl⟩, ?_⟩
  conv => whnf
  exact ⟨rfl, rfl⟩
theorem closure39 (m : Message) (H : Fn Tryd.prog [] 40 [.agg m.acells, .sc (.int .i64 1)] [] (ret [.sc (.bool true)] [])) : Fn Tryd.prog [] 39 [.agg m.acells] [] (ret [.sc (.bool false)] []) := by
  obtain ⟨name, fields, oneofs, reserved, messages, enums, pos⟩ := m
  refine fn_of Tryd.func39 (by kernel_rfl) ?_
  conv => whnf
  refine Fn.use (H) ?_
  conv => whnf
  first | refine ⟨trivial, ?_⟩ | refine ⟨⟨rfl, clr_of rfl⟩, ?_⟩
  conv => whnf
  exact ⟨rfl, rfl⟩
theorem idx1Msg74 (m : Message) (d : Int) (H : Fn Tryd.prog [] 74 [.agg m.acells, .shp [.sc (.int .i64 d)]] [] (ret [.sc (.bool false)] [])) : Fn Tryd.prog [] 66 [.sh 7 [m.cells], .fn 74 [.shp [.sc (.int .i64 d)]]] [] (ret [.sc (.int .i64 (-1))] []) := by
  obtain ⟨name, fields, oneofs, reserved, messages, enums, pos⟩ := m
  refine fn_of Tryd.func66 (by kernel_rfl) ?_
  conv => whnf
  refine loop_of (A := Nat) (fun i => ⟨[(0, .sh 7 [Message.cells ⟨name, fields, oneofs, reserved, messages, enums, pos⟩]), (1, .fn 74 [.shp [.sc (.int .i64 d)]]), (7, .sc (.int .i64 1)), (8, .sc (.int .i64 i))], [], 0, 19, 0⟩) (fun i => 1 - i) (fun i => i ≤ 1) 0 rfl (by omega) ?_
  intro i hi X ih
  have ih := ih 1
  match i, hi with
  | 0, _ =>
    conv => whnf
    refine Fn.use (H) ?_
    conv => whnf
    first | refine ⟨trivial, ?_⟩ | refine ⟨⟨rfl, clr_of rfl⟩, ?_⟩
    conv => whnf
    exact ih (by omega) (by omega)
  | 1, _ =>
    conv => whnf
    exact ⟨rfl, rfl⟩
theorem idx1Msg39 (m : Message) (H : Fn Tryd.prog [] 39 [.agg m.acells] [] (ret [.sc (.bool false)] [])) : Fn Tryd.prog [] 66 [.sh 7 [m.cells], .fn 39 []] [] (ret [.sc (.int .i64 (-1))] []) := by
  obtain ⟨name, fields, oneofs, reserved, messages, enums, pos⟩ := m
  refine fn_of Tryd.func66 (by kernel_rfl) ?_
  conv => whnf
  refine loop_of (A := Nat) (fun i => ⟨[(0, .sh 7 [Message.cells ⟨name, fields, oneofs, reserved, messages, enums, pos⟩]), (1, .fn 39 []), (7, .sc (.int .i64 1)), (8, .sc (.int .i64 i))], [], 0, 19, 0⟩) (fun i => 1 - i) (fun i => i ≤ 1) 0 rfl (by omega) ?_
  intro i hi X ih
  have ih := ih 1
  match i, hi with
  | 0, _ =>
    conv => whnf
    refine Fn.use (H) ?_
    conv => whnf
    first | refine ⟨trivial, ?_⟩ | refine ⟨⟨rfl, clr_of rfl⟩, ?_⟩
    conv => whnf
    exact ih (by omega) (by omega)
  | 1, _ =>
    conv => whnf
    exact ⟨rfl, rfl⟩
theorem con1Msg74 (m : Message) (d : Int) (H : Fn Tryd.prog [] 74 [.agg m.acells, .shp [.sc (.int .i64 d)]] [] (ret [.sc (.bool false)] [])) : Fn Tryd.prog [] 38 [.sh 7 [m.cells], .fn 74 [.shp [.sc (.int .i64 d)]]] [] (ret [.sc (.bool false)] []) := by
  have H := idx1Msg74 m d H
  refine fn_of Tryd.func38 (by kernel_rfl) ?_
  conv => whnf
  refine Fn.use (H) ?_
  conv => whnf
  first | refine ⟨trivial, ?_⟩ | refine ⟨⟨rfl, clr_of rfl⟩, ?_⟩
  conv => whnf
  exact ⟨rfl, rfl⟩
theorem con1Msg39 (m : Message) (H : Fn Tryd.prog [] 39 [.agg m.acells] [] (ret [.sc (.bool false)] [])) : Fn Tryd.prog [] 38 [.sh 7 [m.cells], .fn 39 []] [] (ret [.sc (.bool false)] []) := by
  have H := idx1Msg39 m H
  refine fn_of Tryd.func38 (by kernel_rfl) ?_
  conv => whnf
  refine Fn.use (H) ?_
  conv => whnf
  first | refine ⟨trivial, ?_⟩ | refine ⟨⟨rfl, clr_of rfl⟩, ?_⟩
  conv => whnf
  exact ⟨rfl, rfl⟩
theorem ifP_no {b : Bool} {A B : Prop} (h : b = false) (k : B) : ifP b A B := by rw [h]; exact k
theorem ifP_yes {b : Bool} {A B : Prop} (h : b = true) (k : A) : ifP b A B := by rw [h]; exact k
/-- Messages within one another, from the i-th on, k more of them within. -/
def nestM : Nat → Nat → Message
  | i, 0 => ⟨nameA, [], [], [], [], [], ((11 * i : Nat) : Int)⟩
  | i, k + 1 => ⟨nameA, [], [], [], [nestM (i + 1) k], [], ((11 * i : Nat) : Int)⟩
theorem nestOk : ∀ (k i d : Nat), 1 ≤ d → d + k ≤ 8 → Fn Tryd.prog [] 40 [.agg (nestM i k).acells, .sc (.int .i64 d)] [] (ret [.sc (.bool true)] [])
  | 0, i, d, h1, h2 => by
    have HN := implNameOk nameA (by decide)
    rw [show nameB nameA = true by decide] at HN
    have h9 : decide ((d : Int) > 8) = false := decide_eq_false (by omega)
    have hp : decide (((11 * i : Nat) : Int) < 0) = false := decide_eq_false (by omega)
    unfold nestM
    generalize ((11 * i : Nat) : Int) = p at *
    have HO := implOneofs0 nameA [] [] p
    have H1 := conField70
    have H2 := conInt73
    have H3 := conMsg74 d
    have H4 := conEnum75
    refine fn_of Tryd.func40 (by kernel_rfl) ?_
    conv => whnf
    refine ifP_no h9 ?_
    conv => whnf
    refine Fn.use HN ⟨trivial, ?_⟩
    as_aux_lemma =>
      conv => whnf
      refine ifP_no hp ?_
      conv => whnf
      refine Fn.use HO ⟨trivial, ?_⟩
      as_aux_lemma =>
        conv => whnf
        refine Fn.use (H1) ?_
        conv => whnf
        first | refine ⟨trivial, ?_⟩ | refine ⟨⟨rfl, clr_of rfl⟩, ?_⟩
        conv => whnf
        refine Fn.use (H2) ?_
        conv => whnf
        first | refine ⟨trivial, ?_⟩ | refine ⟨⟨rfl, clr_of rfl⟩, ?_⟩
        conv => whnf
        refine Fn.use H3 ⟨⟨rfl, clr_of rfl⟩, ?_⟩
        as_aux_lemma =>
          conv => whnf
          refine Fn.use (H4) ?_
          conv => whnf
          first | refine ⟨trivial, ?_⟩ | refine ⟨⟨rfl, clr_of rfl⟩, ?_⟩
          conv => whnf
          exact ⟨rfl, rfl⟩
  | k + 1, i, d, h1, h2 => by
    have HN := implNameOk nameA (by decide)
    rw [show nameB nameA = true by decide] at HN
    have h9 : decide ((d : Int) > 8) = false := decide_eq_false (by omega)
    have hp : decide (((11 * i : Nat) : Int) < 0) = false := decide_eq_false (by omega)
    have IH := nestOk k (i + 1) (d + 1) (by omega) (by omega)
    unfold nestM
    generalize ((11 * i : Nat) : Int) = p at *
    generalize hm : nestM (i + 1) k = m at *
    have HO := implOneofs0 nameA [m] [] p
    have H1 := conField70
    have H2 := conInt73
    have H3 := con1Msg74 m d (closure74 m d (by omega) (by omega) IH)
    have H4 := conEnum75
    have hcs : Message.css [m] = [m.cells] := by rw [Message.css, Message.cs_eq, Message.css]
    unfold Message.acells at HO ⊢
    dsimp only at HO ⊢
    rw [hcs] at HO ⊢
    generalize m.cells = mc at *
    refine fn_of Tryd.func40 (by kernel_rfl) ?_
    conv => whnf
    refine ifP_no h9 ?_
    conv => whnf
    refine Fn.use HN ⟨trivial, ?_⟩
    as_aux_lemma =>
      conv => whnf
      refine ifP_no hp ?_
      conv => whnf
      refine Fn.use HO ⟨trivial, ?_⟩
      as_aux_lemma =>
        conv => whnf
        refine Fn.use (H1) ?_
        conv => whnf
        first | refine ⟨trivial, ?_⟩ | refine ⟨⟨rfl, clr_of rfl⟩, ?_⟩
        conv => whnf
        refine Fn.use (H2) ?_
        conv => whnf
        first | refine ⟨trivial, ?_⟩ | refine ⟨⟨rfl, clr_of rfl⟩, ?_⟩
        conv => whnf
        refine Fn.use H3 ⟨⟨rfl, clr_of rfl⟩, ?_⟩
        as_aux_lemma =>
          conv => whnf
          refine Fn.use (H4) ?_
          conv => whnf
          first | refine ⟨trivial, ?_⟩ | refine ⟨⟨rfl, clr_of rfl⟩, ?_⟩
          conv => whnf
          exact ⟨rfl, rfl⟩
theorem nestFile (k : Nat) (h : k ≤ 7) : Fn Tryd.prog [] 17 [.agg (File.acells ⟨[nestM 0 k], []⟩)] [] (ret [.sc (.bool true)] []) := by
  have H := nestOk k 0 1 (by omega) (by omega)
  have H1 := con1Msg39 _ (closure39 _ H)
  have H2 := conEnum42
  generalize hm : nestM 0 k = m at *
  have hcs : Message.css [m] = [m.cells] := by rw [Message.css, Message.cs_eq, Message.css]
  unfold File.acells
  dsimp only
  rw [hcs]
  generalize m.cells = mc at *
  refine fn_of Tryd.func17 (by kernel_rfl) ?_
  conv => whnf
  refine Fn.use (H1) ?_
  conv => whnf
  first | refine ⟨trivial, ?_⟩ | refine ⟨⟨rfl, clr_of rfl⟩, ?_⟩
  conv => whnf
  refine Fn.use (H2) ?_
  conv => whnf
  first | refine ⟨trivial, ?_⟩ | refine ⟨⟨rfl, clr_of rfl⟩, ?_⟩
  conv => whnf
  exact ⟨rfl, rfl⟩
end Ev
open Go Ev
open Go.Proofs
set_option maxRecDepth 100000
set_option maxHeartbeats 4000000
set_option linter.unusedVariables false
namespace Ev
def msgT : ByteArray := ⟨#[109, 101, 115, 115, 97, 103, 101, 32, 65, 32, 123]⟩
def endT : ByteArray := ⟨#[125]⟩
def rep1 : Nat → ByteArray
  | 0 => .empty
  | n + 1 => rep1 n ++ msgT
def rep2 (s : ByteArray) : Nat → ByteArray
  | 0 => s
  | n + 1 => rep2 s n ++ endT
def nestT (n : Nat) : ByteArray := rep2 (rep1 n) n
theorem nest1 : parseP (nestT 1) = (⟨[nestM 0 0], []⟩, 0, 0) := by kernel_rfl
theorem nest2 : parseP (nestT 2) = (⟨[nestM 0 1], []⟩, 0, 0) := by kernel_rfl
theorem nest3 : parseP (nestT 3) = (⟨[nestM 0 2], []⟩, 0, 0) := by kernel_rfl
theorem nest4 : parseP (nestT 4) = (⟨[nestM 0 3], []⟩, 0, 0) := by kernel_rfl
theorem nest5 : parseP (nestT 5) = (⟨[nestM 0 4], []⟩, 0, 0) := by kernel_rfl
theorem nest6 : parseP (nestT 6) = (⟨[nestM 0 5], []⟩, 0, 0) := by kernel_rfl
theorem nest7 : parseP (nestT 7) = (⟨[nestM 0 6], []⟩, 0, 0) := by kernel_rfl
theorem nest8 : parseP (nestT 8) = (⟨[nestM 0 7], []⟩, 0, 0) := by kernel_rfl
theorem nest9 : parseP (nestT 9) = (⟨[], []⟩, 16, 88) := by kernel_rfl
theorem nest10 : parseP (nestT 10) = (⟨[], []⟩, 16, 88) := by kernel_rfl
theorem nest11 : parseP (nestT 11) = (⟨[], []⟩, 16, 88) := by kernel_rfl
theorem nest12 : parseP (nestT 12) = (⟨[], []⟩, 16, 88) := by kernel_rfl
theorem nestP {n : Nat} (h1 : 1 ≤ n) (h2 : n ≤ 12) : (n ≤ 8 ∧ parseP (nestT n) = (⟨[nestM 0 (n - 1)], []⟩, 0, 0)) ∨ (8 < n ∧ parseP (nestT n) = (⟨[], []⟩, 16, 88)) := by
  match n, h1, h2 with
  | 1, _, _ => exact .inl ⟨by omega, nest1⟩
  | 2, _, _ => exact .inl ⟨by omega, nest2⟩
  | 3, _, _ => exact .inl ⟨by omega, nest3⟩
  | 4, _, _ => exact .inl ⟨by omega, nest4⟩
  | 5, _, _ => exact .inl ⟨by omega, nest5⟩
  | 6, _, _ => exact .inl ⟨by omega, nest6⟩
  | 7, _, _ => exact .inl ⟨by omega, nest7⟩
  | 8, _, _ => exact .inl ⟨by omega, nest8⟩
  | 9, _, _ => exact .inr ⟨by omega, nest9⟩
  | 10, _, _ => exact .inr ⟨by omega, nest10⟩
  | 11, _, _ => exact .inr ⟨by omega, nest11⟩
  | 12, _, _ => exact .inr ⟨by omega, nest12⟩
  | n + 13, _, h => omega
end Ev
open Go Ev
open Go.Proofs
set_option maxRecDepth 100000
set_option maxHeartbeats 4000000
set_option linter.unusedVariables false
namespace Ev
def byteC (l : List Int) : List (List V) := l.map fun n => [.sc (.int .u8 n)]
theorem byteC_len (l : List Int) : (byteC l).length = l.length := List.length_map ..
def Bytes (l : List Int) : Prop := ∀ b ∈ l, 0 ≤ b ∧ b < 256
theorem lawBig (l : List Int) : Fn Tryd.prog [] 14 [.sh 1 (byteC l)] [] (ret [.sc (.bool (decide ((l.length : Int) > 1048576)))] []) := by
  have hl := byteC_len l
  refine fn_of Tryd.func14 (by kernel_rfl) ?_
  conv => whnf
  rw [hl]
  exact ⟨rfl, rfl⟩
theorem lawAt0 (l : List Int) (h : Bytes l) : Fn Tryd.prog [] 15 [.sh 1 (byteC l), .sc (.int .i64 0)] [] (ret [.sc (.int .i64 (l.headD 0))] []) := by
  match l, h with
  | [], _ =>
    refine fn_of Tryd.func15 (by kernel_rfl) ?_
    conv => whnf
    exact ⟨rfl, rfl⟩
  | b :: l, h =>
    have hb := h b (List.mem_cons_self ..)
    have hl := byteC_len l
    have e : byteC (b :: l) = [.sc (.int .u8 b)] :: byteC l := rfl
    rw [e]
    generalize byteC l = L at *
    have hlt : decide ((0 : Int) < ((([V.sc (.int .u8 b)] :: L).length : Nat) : Int)) = true := decide_eq_true (by rw [List.length_cons]; omega)
    refine fn_of Tryd.func15 (by kernel_rfl) ?_
    conv => whnf
    refine ifP_yes hlt ?_
    conv => whnf
    refine ⟨il ?_, rfl⟩
    show IntKind.i64.wrap b = b
    rw [wrap64 (by omega) (by omega)]
theorem rep1_size : ∀ n, (rep1 n).size = 11 * n
  | 0 => rfl
  | n + 1 => by rw [rep1, ByteArray.size_append, rep1_size n, show msgT.size = 11 from rfl]; omega
theorem rep2_size (s : ByteArray) : ∀ n, (rep2 s n).size = s.size + n
  | 0 => rfl
  | n + 1 => by rw [rep2, ByteArray.size_append, rep2_size s n, show endT.size = 1 from rfl]; omega
theorem lawNested (l : List Int) (hb : Bytes l) : Fn Tryd.prog [] 4 [.sh 1 (byteC l)] [] (ret [.sc (.bool true)] []) := by
  have H1 := lawBig l
  have H2 := lawAt0 l hb
  have hh : ∃ n : Nat, l.headD 0 = n ∧ n < 256 := by
    match l, hb with
    | [], _ => exact ⟨0, rfl, by omega⟩
    | b :: l, h => have hb := h b (List.mem_cons_self ..); exact ⟨b.toNat, by show b = _; omega, by omega⟩
  obtain ⟨c, hc, hc2⟩ := hh
  rw [hc] at H2
  refine fn_of Tryd.func4 (by kernel_rfl) ?_
  conv => whnf
  refine Fn.use (H1) ?_
  conv => whnf
  first | refine ⟨trivial, ?_⟩ | refine ⟨⟨rfl, clr_of rfl⟩, ?_⟩
  conv => whnf
  refine ifP_of (fun h => ?_) (fun h => ?_)
  · conv => whnf
    exact ⟨rfl, rfl⟩
  conv => whnf
  refine Fn.use (H2) ?_
  conv => whnf
  first | refine ⟨trivial, ?_⟩ | refine ⟨⟨rfl, clr_of rfl⟩, ?_⟩
  conv => whnf
  have hn : IntKind.i64.wrap (1 + ((c : Nat) : Int).tmod 12) = ((c % 12 + 1 : Nat) : Int) := by rw [Int.tmod_eq_emod_of_nonneg (by omega), wrap64 (by omega) (by omega)]; omega
  generalize hN : c % 12 + 1 = n at *
  have hn1 : 1 ≤ n := by omega
  have hn2 : n ≤ 12 := by omega
  rw [hn]
  clear hn hc hc2 hN h H1 H2
  refine loop_of (A := Nat) (fun i => ⟨[(3, .sc (.int .i64 n)), (4, .sc (.string (rep1 i))), (5, .sc (.int .i64 i))], [], 0, 52, 0⟩) (fun i => n - i) (fun i => i ≤ n) 0 rfl (Nat.zero_le _) ?_
  intro i hi X ih
  conv => whnf
  refine ifP_of (fun h1 => ?_) (fun h1 => ?_)
  · have h1 : i < n := by have := of_decide_eq_true h1; omega
    have hw : IntKind.i64.wrap ((i : Int) + 1) = ((i + 1 : Nat) : Int) := by rw [wrap64 (by omega) (by omega)]; omega
    have fin := ih (i + 1) (by omega) (by omega)
    rw [← hw] at fin
    have hsz : (rep1 i).size + msgT.size ≤ 9223372036854775807 := by rw [rep1_size, show msgT.size = 11 from rfl]; omega
    conv => whnf
    refine chkP_of ?hchk ?_
    case hchk => first | exact decide_eq_true (by omega) | (simp; done) | (simp; omega) | exact decide_eq_true hsz
    conv => whnf
    exact fin
  have h1 : i = n := by have := of_decide_eq_false h1; omega
  subst h1
  clear ih
  conv => whnf
  refine loop_of (A := Nat) (fun j => ⟨[(3, .sc (.int .i64 i)), (4, .sc (.string (rep2 (rep1 i) j))), (6, .sc (.int .i64 j))], [], 0, 52, 0⟩) (fun j => i - j) (fun j => j ≤ i) 0 rfl (Nat.zero_le _) ?_
  intro j hj Y ih2
  conv => whnf
  refine ifP_of (fun h2 => ?_) (fun h2 => ?_)
  · have h2 : j < i := by have := of_decide_eq_true h2; omega
    have hw : IntKind.i64.wrap ((j : Int) + 1) = ((j + 1 : Nat) : Int) := by rw [wrap64 (by omega) (by omega)]; omega
    have fin := ih2 (j + 1) (by omega) (by omega)
    rw [← hw] at fin
    have hsz : (rep2 (rep1 i) j).size + endT.size ≤ 9223372036854775807 := by rw [rep2_size, rep1_size, show endT.size = 1 from rfl]; omega
    conv => whnf
    refine chkP_of ?hchk ?_
    case hchk => first | exact decide_eq_true (by omega) | (simp; done) | (simp; omega) | exact decide_eq_true hsz
    conv => whnf
    exact fin
  have h2 : j = i := by have := of_decide_eq_false h2; omega
  subst h2
  clear ih2
  have HP := implParse (nestT j)
  have hP := nestP hn1 hn2
  have e : rep2 (rep1 j) j = nestT j := rfl
  conv => whnf
  rw [e]
  generalize nestT j = s at *
  rcases hP with ⟨h8, hP⟩ | ⟨h8, hP⟩
  · rw [hP] at HP
    dsimp only at HP
    have h9 : decide ((j : Int) > 8) = false := decide_eq_false (by omega)
    have HF := nestFile (j - 1) (by omega)
    have hcs : ∀ m, Message.css [m] = [m.cells] := fun m => by rw [Message.css, Message.cs_eq, Message.css]
    unfold File.ocells at HP
    unfold File.acells at HF
    dsimp only at HP HF
    rw [hcs] at HP HF
    generalize (nestM 0 (j - 1)).cells = mc at *
    refine Fn.use (HP) ?_
    conv => whnf
    first | refine ⟨trivial, ?_⟩ | refine ⟨⟨rfl, clr_of rfl⟩, ?_⟩
    conv => whnf
    refine ifP_no h9 ?_
    conv => whnf
    refine Fn.use (HF) ?_
    conv => whnf
    first | refine ⟨trivial, ?_⟩ | refine ⟨⟨rfl, clr_of rfl⟩, ?_⟩
    conv => whnf
    exact ⟨rfl, rfl⟩
  · rw [hP] at HP
    have h9 : decide ((j : Int) > 8) = true := decide_eq_true (by omega)
    refine Fn.use (HP) ?_
    conv => whnf
    first | refine ⟨trivial, ?_⟩ | refine ⟨⟨rfl, clr_of rfl⟩, ?_⟩
    conv => whnf
    refine ifP_yes h9 ?_
    conv => whnf
    exact ⟨rfl, rfl⟩
end Ev
