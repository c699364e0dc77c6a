/- The lexer of schemas in plain Lean. -/
import Derived.Test.YtfhpkcdkinnnmaaDoorF3
import Derived.Shelf.Strings.Search1
import Derived.Lib.IndexLaws
open Go Ev
open Go.Proofs
set_option maxRecDepth 100000
set_option maxHeartbeats 4000000
set_option linter.unusedVariables false
namespace Ev
def byteN (s : ByteArray) (i : Nat) : Int := byteAt s (i : Int)
def letterB (c : Int) : Bool := (decide (c ≥ 97) && decide (c ≤ 122)) || ((decide (c ≥ 65) && decide (c ≤ 90)) || (c == 95))
def digitB (c : Int) : Bool := decide (c ≥ 48) && decide (c ≤ 57)
def nameC (c : Int) : Bool := letterB c || digitB c
def blankB (c : Int) : Bool := (c == 32) || ((c == 9) || (c == 10))
def signB (c : Int) : Bool := (c == 123) || ((c == 125) || ((c == 61) || ((c == 59) || ((c == 44) || ((c == 46) || (c == 45))))))
/-- How far such bytes stand. -/
def scan (p : Int → Bool) (s : ByteArray) : Nat → Nat → Nat
  | 0, i => i
  | n + 1, i => pick (p (byteN s i)) (scan p s n (i + 1)) i
theorem scan_ge (p : Int → Bool) (s : ByteArray) : ∀ n i, i ≤ scan p s n i ∧ scan p s n i ≤ i + n
  | 0, i => ⟨Nat.le_refl _, Nat.le_refl _⟩
  | n + 1, i => by
    rw [scan]
    have := scan_ge p s n (i + 1)
    cases p (byteN s i) <;> simp only [pick] <;> omega
def runE (p : Int → Bool) (s : ByteArray) (i : Nat) : Nat := scan p s (s.size - i) i
theorem runE_le (p : Int → Bool) (s : ByteArray) {i : Nat} (h : i ≤ s.size) : i ≤ runE p s i ∧ runE p s i ≤ s.size := by
  have := scan_ge p s (s.size - i) i
  unfold runE; omega
theorem runE_yes {p : Int → Bool} {s : ByteArray} {i : Nat} (h : i < s.size) (hp : p (byteN s i) = true) : runE p s i = runE p s (i + 1) := by
  unfold runE
  rw [show s.size - i = (s.size - (i + 1)) + 1 by omega, scan, hp]; rfl
theorem runE_no {p : Int → Bool} {s : ByteArray} {i : Nat} (h : i < s.size) (hp : p (byteN s i) = false) : runE p s i = i := by
  unfold runE
  rw [show s.size - i = (s.size - (i + 1)) + 1 by omega, scan, hp]; rfl
theorem runE_end {p : Int → Bool} {s : ByteArray} {i : Nat} (h : s.size ≤ i) : runE p s i = i := by
  unfold runE
  rw [show s.size - i = 0 by omega]; rfl
def slashB (s : ByteArray) (i : Nat) : Bool := (byteN s i == 47) && (decide (i + 1 < s.size) && (byteN s (i + 1) == 47))
def notNl (c : Int) : Bool := !(c == 10)
def skpC (s : ByteArray) (i : Nat) : Bool := decide (i < s.size) && (blankB (byteN s i) || slashB s i)
def skpF (s : ByteArray) (i : Nat) : Nat := pick (blankB (byteN s i)) (i + 1) (runE notNl s i)
def skpP (s : ByteArray) (i : Nat) : Nat := iter (skpC s) (skpF s) (s.size - i) i
theorem skpF_lt (s : ByteArray) (i : Nat) (h : skpC s i = true) : s.size - skpF s i < s.size - i := by
  unfold skpC at h
  simp only [Bool.and_eq_true, Bool.or_eq_true] at h
  have hi := of_decide_eq_true h.1
  unfold skpF
  cases hb : blankB (byteN s i) with
  | true => simp only [pick]; omega
  | false =>
    rw [hb] at h
    have h2 : slashB s i = true := by simpa using h.2
    unfold slashB at h2
    simp only [Bool.and_eq_true] at h2
    have h3 : byteN s i = 47 := by simpa using h2.1
    have : runE notNl s i = runE notNl s (i + 1) := runE_yes hi (by rw [h3]; rfl)
    have h4 := runE_le notNl s (i := i + 1) (by omega)
    simp only [pick]
    omega
theorem skip_yes {s : ByteArray} {i : Nat} (h : skpC s i = true) : skpP s i = skpP s (skpF s i) := iter_yes (mu := fun i => s.size - i) (skpF_lt s) h
theorem skip_no {s : ByteArray} {i : Nat} (h : skpC s i = false) : skpP s i = i := iter_no h
theorem skip_ge (s : ByteArray) : ∀ (n i : Nat), s.size - i ≤ n → i ≤ s.size → i ≤ skpP s i ∧ skpP s i ≤ s.size
  | n, i, hn, hi => by
    cases hc : skpC s i with
    | false => rw [skip_no hc]; exact ⟨Nat.le_refl _, hi⟩
    | true =>
      have hlt := skpF_lt s i hc
      have hF : i ≤ skpF s i ∧ skpF s i ≤ s.size := by
        have hi2 : i < s.size := by
          unfold skpC at hc
          simp only [Bool.and_eq_true] at hc
          exact of_decide_eq_true hc.1
        unfold skpF
        have := runE_le notNl s hi
        cases blankB (byteN s i) <;> simp only [pick] <;> omega
      rw [skip_yes hc]
      match n, hn with
      | 0, hn => omega
      | n + 1, hn =>
        have := skip_ge s n (skpF s i) (by omega) hF.2
        omega
def decN (s : ByteArray) : Nat → Nat → Int → Int
  | 0, _, a => a
  | n + 1, i, a => decN s n (i + 1) (a * 10 + (byteN s i - 48))
/-- The token at a place, where it ends, a fault's code. -/
def tokP (s : ByteArray) (i : Nat) : Tok × Nat × Int :=
  pick (letterB (byteN s i))
    (pick (decide (runE nameC s i - i > 20)) (⟨0, .empty, 0, 0⟩, i, 12) (⟨1, s.extract i (runE nameC s i), 0, i⟩, runE nameC s i, 0))
    (pick (digitB (byteN s i))
      (pick (decide (decN s (runE digitB s i - i) i 0 > 2147483647) || ((byteN s i == 48) && decide (runE digitB s i > i + 1))) (⟨0, .empty, 0, 0⟩, i, 13) (⟨2, .empty, decN s (runE digitB s i - i) i 0, i⟩, runE digitB s i, 0))
      (pick (signB (byteN s i)) (⟨3, s.extract i (i + 1), 0, i⟩, i + 1, 0) (⟨0, .empty, 0, 0⟩, i, 11)))
def lexL (s : ByteArray) : Nat → Nat → List Tok → List Tok × Int × Int
  | 0, _, _ => ([], 0, 0)
  | n + 1, i, out => match decide (i < s.size) with
    | false => (out ++ [⟨4, .empty, 0, s.size⟩], 0, 0)
    | true => match (tokP s i).2.2 == 0 with
      | false => ([], (tokP s i).2.2, i)
      | true => match out.length == 1500 with
        | true => ([], 14, i)
        | false => lexL s n (skpP s (tokP s i).2.1) (out ++ [(tokP s i).1])
def lexP (s : ByteArray) : List Tok × Int × Int := pick (decide ((s.size : Int) > 6000)) ([], 14, 0) (lexL s (s.size + 1) (skpP s 0) [])
end Ev
open Go Ev
open Go.Proofs
set_option maxRecDepth 100000
set_option maxHeartbeats 4000000
set_option linter.unusedVariables false
namespace Ev
open Go.Shelf in
def idxRen : Go.Shelf.Ren := ⟨fun | 217 => 103 | 266 => 108 | n => n, fun n => n, fun n => n⟩
theorem idxLays : Go.Proofs.Lays.n217 Tryd.prog idxRen := {
  mixed := by kernel_rfl
  f217 := Tryd.func103.trans (congrArg some (by kernel_rfl))
  f266 := Tryd.func108.trans (congrArg some (by kernel_rfl))
  t3 := Tryd.underlying3
  a3 := Tryd.isAgg3
  z3 := Tryd.sizeOf3
  v3 := Tryd.zeroValue3
  t5 := Tryd.underlying5
  a5 := Tryd.isAgg5
  z5 := Tryd.sizeOf5
  v5 := Tryd.zeroValue5
  t9 := Tryd.underlying9
  a9 := Tryd.isAgg9
  z9 := Tryd.sizeOf9
  v9 := Tryd.zeroValue9 }
theorem Keeps.same (pm0 : Nat → Nat → Option (Nat × Path)) (w : World) : Keeps pm0 w w := ⟨rfl, rfl, rfl, Nat.le_refl _, fun _ _ _ => rfl, fun _ _ _ _ => ⟨rfl, rfl⟩⟩
/-- A function of whole values that turns nothing. -/
theorem fn_plain {P : Program} {f : Nat} {xs : List Value} {x : Value} (h : ∀ w, Calls P f xs.toArray w fun e w' => e = .returned x ∧ w' = w) : Fn P [] f (xs.map .sc) [] (ret [.sc x] []) := by
  refine ⟨fun w ok g pm ys hl hv hb hlow hok hgl => ?_⟩
  have e : ys = xs := by
    rw [List.length_map] at hl
    refine List.ext_getElem hl (fun k h1 h2 => ?_)
    exact (hv k (.sc xs[k]) ys[k] (by rw [List.getElem?_map, List.getElem?_eq_getElem h2]; rfl) (List.getElem?_eq_getElem h1)).sc_inv
  subst e
  refine (h w).mono fun e w' ⟨h1, h2⟩ => ⟨x, [.sc x], [], h1, ⟨rfl, rfl⟩, fun n0 _ => ⟨g, pm, ?_⟩⟩
  subst h2
  exact {
    keep := Keeps.same pm _
    len := rfl
    top := fun k o o' h => by simp at h
    own := fun b o hb => ⟨.inl hb, hlow b o hb⟩
    blk := fun r p es d n hh => by
      have : (stO ((open3 n0 [V.sc x]).2.1 ++ obsO 0 [])).at r p = none := rfl
      rw [this] at hh; cases hh
    val := .sc x
    rng := fun r hr => absurd rfl hr
    le := Nat.le_refl _ }
theorem implIdx0 (s : ByteArray) (c : Int) : Fn Tryd.prog [] 103 [.sc (.string s), .sc (.int .u8 c)] [] (ret [.sc (.int .i64 (Lib.indexByte s.data.toList c.toNat.toUInt8))] []) :=
  fn_plain (xs := [.string s, .int .u8 c]) fun w => Any.stringslite_IndexByte idxLays s c w
theorem implIdx (s : ByteArray) (c : Int) : Fn Tryd.prog [] 86 [.sc (.string s), .sc (.int .u8 c)] [] (ret [.sc (.int .i64 (Lib.indexByte s.data.toList c.toNat.toUInt8))] []) := by
  have H := implIdx0 s c
  generalize Lib.indexByte s.data.toList c.toNat.toUInt8 = R at *
  refine fn_of Tryd.func86 (by kernel_rfl) ?_
  conv => whnf
  refine Fn.use (H) ?_
  conv => whnf
  first | refine ⟨trivial, ?_⟩ | refine ⟨⟨rfl, clr_of rfl⟩, ?_⟩
  conv => whnf
  exact ⟨rfl, rfl⟩
def prefB (s p : ByteArray) : Bool := decide ((s.size : Int) ≥ p.size) && ((s.extract 0 p.size).toList == p.toList)
theorem implPref0 (s p : ByteArray) : Fn Tryd.prog [] 102 [.sc (.string s), .sc (.string p)] [] (ret [.sc (.bool (prefB s p))] []) := by
  have hr : prefB s p = (decide ((s.size : Int) ≥ p.size) && ((s.extract 0 p.size).toList == p.toList)) := rfl
  generalize prefB s p = R at *
  refine fn_of Tryd.func102 (by kernel_rfl) ?_
  conv => whnf
  refine ifP_of (fun h => ?_) (fun h => ?_)
  · have h1 := of_decide_eq_true h
    conv => whnf
    refine chkP_of ?hchk ?_
    case hchk => first | exact decide_eq_true (by omega) | (simp; done) | (simp; omega) | exact decide_eq_true (show (p.size : Int) ≤ s.size by omega)
    conv => whnf
    exact ⟨bl (by rw [hr, h]; rfl), rfl⟩
  · conv => whnf
    exact ⟨bl (by rw [hr, h]; rfl), rfl⟩
theorem implPref (s p : ByteArray) : Fn Tryd.prog [] 85 [.sc (.string s), .sc (.string p)] [] (ret [.sc (.bool (prefB s p))] []) := by
  have H := implPref0 s p
  generalize prefB s p = R at *
  refine fn_of Tryd.func85 (by kernel_rfl) ?_
  conv => whnf
  refine Fn.use (H) ?_
  conv => whnf
  first | refine ⟨trivial, ?_⟩ | refine ⟨⟨rfl, clr_of rfl⟩, ?_⟩
  conv => whnf
  exact ⟨rfl, rfl⟩
end Ev
open Go Ev
open Go.Proofs
set_option maxRecDepth 100000
set_option maxHeartbeats 4000000
set_option linter.unusedVariables false
namespace Ev
theorem byte_range (s : ByteArray) (i : Int) : 0 ≤ byteAt s i ∧ byteAt s i ≤ 255 := by
  unfold byteAt
  have := ((s.data[i.toNat]?).getD 0).toNat_lt
  omega
theorem implLetter (c : Int) : Fn Tryd.prog [] 87 [.sc (.int .u8 c)] [] (ret [.sc (.bool (letterB c))] []) := by
  have hr : letterB c = ((decide (c ≥ 97) && decide (c ≤ 122)) || ((decide (c ≥ 65) && decide (c ≤ 90)) || (c == 95))) := rfl
  generalize letterB c = R at *
  refine fn_of Tryd.func87 (by kernel_rfl) ?_
  conv => whnf
  repeat' (first
    | (refine chkP_of ?hchk ?_; (case hchk => simp; done); (conv => whnf))
    | (refine ifP_of (fun _ => ?_) (fun _ => ?_) <;> (conv => whnf)))
  all_goals exact ⟨bl (by rw [hr, Bool.eq_iff_iff]; clear hr; first | (simp_all; done) | (simp_all; omega)), rfl⟩
theorem implDigit (c : Int) : Fn Tryd.prog [] 88 [.sc (.int .u8 c)] [] (ret [.sc (.bool (digitB c))] []) := by
  have hr : digitB c = (decide (c ≥ 48) && decide (c ≤ 57)) := rfl
  generalize digitB c = R at *
  refine fn_of Tryd.func88 (by kernel_rfl) ?_
  conv => whnf
  repeat' (first
    | (refine chkP_of ?hchk ?_; (case hchk => simp; done); (conv => whnf))
    | (refine ifP_of (fun _ => ?_) (fun _ => ?_) <;> (conv => whnf)))
  all_goals exact ⟨bl (by rw [hr, Bool.eq_iff_iff]; clear hr; first | (simp_all; done) | (simp_all; omega)), rfl⟩
end Ev
open Go Ev
open Go.Proofs
set_option maxRecDepth 100000
set_option maxHeartbeats 4000000
set_option linter.unusedVariables false
namespace Ev
theorem ba_ext {a b : ByteArray} (h : a.data.toList = b.data.toList) : a = b := ByteArray.ext (Array.ext' h)
theorem ext_list (s : ByteArray) (i j : Nat) : (s.extract i j).data.toList = (s.data.toList.take j).drop i := by
  rw [ByteArray.data_extract, Array.toList_extract, List.extract_eq_drop_take', List.drop_take]
theorem ext_tail (s : ByteArray) (i : Nat) : (s.extract i s.size).data.toList = s.data.toList.drop i := by
  rw [ext_list, List.take_of_length_le (by rw [Array.length_toList]; exact Nat.le_refl _)]
theorem byteN_get (s : ByteArray) (i : Nat) : byteN s i = (((s.data.toList[i]?).getD 0).toNat : Int) := by
  unfold byteN byteAt
  rw [Int.toNat_natCast, Array.getElem?_toList]
theorem size_list (s : ByteArray) : s.data.toList.length = s.size := Array.length_toList
theorem byte_eq {s : ByteArray} {i : Nat} (h : i < s.size) (c : UInt8) : (byteN s i == (c.toNat : Int)) = decide (s.data.toList[i]? = some c) := by
  rw [byteN_get, List.getElem?_eq_getElem (by rw [size_list]; exact h), Option.getD_some, Bool.eq_iff_iff, beq_iff_eq, decide_eq_true_iff, Option.some.injEq]
  constructor
  · intro e; exact UInt8.toNat_inj.1 (by omega)
  · intro e; rw [e]
theorem pref_slash {s : ByteArray} {i : Nat} (h : i < s.size) : prefB (s.extract i s.size) ⟨#[47, 47]⟩ = slashB s i := by
  have hsz : (s.extract i s.size).size = s.size - i := by rw [ByteArray.size_extract]; omega
  have hp : (⟨#[47, 47]⟩ : ByteArray).size = 2 := rfl
  unfold prefB slashB
  rw [bytes_eq, hsz, hp, show (47 : Int) = ((47 : UInt8).toNat : Int) from rfl, byte_eq h]
  by_cases h2 : i + 1 < s.size
  · rw [byte_eq h2, decide_eq_true h2, Bool.true_and, decide_eq_true (show ((s.size - i : Nat) : Int) ≥ ((2 : Nat) : Int) by omega), Bool.true_and, Bool.eq_iff_iff, decide_eq_true_iff, Bool.and_eq_true, decide_eq_true_iff, decide_eq_true_iff]
    have e : ((s.extract i s.size).extract 0 2).data.toList = [s.data.toList[i]'(by rw [size_list]; exact h), s.data.toList[i + 1]'(by rw [size_list]; exact h2)] := by
      rw [ext_list, ext_tail, List.drop_zero]
      rw [List.drop_eq_getElem_cons (by rw [size_list]; exact h), List.drop_eq_getElem_cons (by rw [size_list]; exact h2)]
      rfl
    rw [List.getElem?_eq_getElem (by rw [size_list]; exact h), List.getElem?_eq_getElem (by rw [size_list]; exact h2), Option.some.injEq, Option.some.injEq]
    constructor
    · intro e2
      rw [e2] at e
      have e : [(47 : UInt8), 47] = _ := e
      simp only [List.cons.injEq, and_true] at e
      exact ⟨e.1.symm, e.2.symm⟩
    · intro ⟨e1, e2⟩
      refine ba_ext ?_
      rw [e, e1, e2]
  · rw [decide_eq_false h2, Bool.false_and, Bool.and_false, decide_eq_false (show ¬ ((s.size - i : Nat) : Int) ≥ ((2 : Nat) : Int) by omega), Bool.false_and]
theorem runE_to {p : Int → Bool} {s : ByteArray} : ∀ (o i : Nat), i + o ≤ s.size → (∀ k, k < o → p (byteN s (i + k)) = true) → (i + o < s.size → p (byteN s (i + o)) = false) → runE p s i = i + o
  | 0, i, h, h1, h2 => by
    by_cases e : i < s.size
    · exact runE_no e (h2 e)
    · exact runE_end (by omega)
  | o + 1, i, h, h1, h2 => by
    have h0 := h1 0 (by omega)
    rw [Nat.add_zero] at h0
    rw [runE_yes (by omega) h0, runE_to o (i + 1) (by omega) (fun k hk => by rw [show i + 1 + k = i + (k + 1) by omega]; exact h1 (k + 1) (by omega)) (fun hh => by rw [show i + 1 + o = i + (o + 1) by omega] at *; exact h2 hh)]
    omega
theorem nl_eq {s : ByteArray} {i : Nat} (h : i < s.size) : notNl (byteN s i) = decide (s.data.toList[i]? ≠ some 10) := by
  unfold notNl
  rw [show (10 : Int) = ((10 : UInt8).toNat : Int) from rfl, byte_eq h]
  simp
theorem idx_some {s : ByteArray} {i o : Nat} (hi : i ≤ s.size) (h : Lib.indexByte (s.extract i s.size).data.toList 10 = o) : runE notNl s i = i + o ∧ i + o < s.size := by
  rw [ext_tail] at h
  obtain ⟨h1, h2⟩ := Lib.indexByte_some h
  have h3 : i + o < s.size := by
    have := (List.getElem?_eq_some_iff.1 h1).1
    rw [List.length_drop, size_list] at this
    omega
  rw [List.getElem?_drop] at h1
  refine ⟨runE_to o i (by omega) (fun k hk => ?_) (fun _ => ?_), h3⟩
  · rw [nl_eq (by omega)]
    have := h2 k hk
    rw [List.getElem?_drop] at this
    simpa using this
  · rw [nl_eq h3, h1]; simp
theorem idx_none {s : ByteArray} {i : Nat} (hi : i ≤ s.size) (h : Lib.indexByte (s.extract i s.size).data.toList 10 = -1) : runE notNl s i = s.size := by
  rw [ext_tail] at h
  have h2 := Lib.indexByte_none h
  have := runE_to (p := notNl) (s := s) (s.size - i) i (by omega) (fun k hk => by
    rw [nl_eq (by omega)]
    have := h2 k
    rw [List.getElem?_drop] at this
    simpa using this) (fun hh => by omega)
  rw [this]; omega
theorem skip_end (s : ByteArray) : skpP s s.size = s.size := skip_no (by unfold skpC; simp)
theorem implSkip (s : ByteArray) (i : Nat) (hs : s.size ≤ 6000) (hi : i ≤ s.size) : Fn Tryd.prog [] 57 [.sc (.string s), .sc (.int .i64 i)] [] (ret [.sc (.int .i64 (skpP s i))] []) := by
  generalize hR : skpP s i = R
  refine fn_of Tryd.func57 (by kernel_rfl) ?_
  conv => whnf
  refine loop_of (A := Nat) (fun i => ⟨[(0, .sc (.string s)), (1, .sc (.int .i64 i))], [], 0, 47, 0⟩) (fun i => s.size - i) (fun i => i ≤ s.size ∧ skpP s i = R) i rfl ⟨hi, hR⟩ ?_
  clear hR hi i
  intro i ⟨hi, hR⟩ X ih
  have hno : skpC s i = false → R = i := fun e => by rw [← hR]; exact skip_no e
  have hC : skpC s i = (decide (i < s.size) && (blankB (byteN s i) || slashB s i)) := rfl
  have hyes : skpC s i = true → skpP s (skpF s i) = R := fun e => by rw [← hR]; exact (skip_yes e).symm
  have hylt : skpC s i = true → s.size - skpF s i < s.size - i := fun e => skpF_lt s i e
  have hF : skpF s i = pick (blankB (byteN s i)) (i + 1) (runE notNl s i) := rfl
  have hB : blankB (byteN s i) = ((byteN s i == 32) || ((byteN s i == 9) || (byteN s i == 10))) := rfl
  conv => whnf
  refine ifP_of (fun h1 => ?_) (fun h1 => ?_)
  rotate_left
  · have h1 : ¬ i < s.size := by have := of_decide_eq_false h1; omega
    rw [hno (by rw [hC, decide_eq_false h1]; rfl)]
    conv => whnf
    exact ⟨rfl, rfl⟩
  have h1 : i < s.size := by have := of_decide_eq_true h1; omega
  have hw : IntKind.i64.wrap ((i : Int) + 1) = ((i + 1 : Nat) : Int) := by rw [wrap64 (by omega) (by omega)]; omega
  rw [decide_eq_true h1, Bool.true_and] at hC
  have hlt : decide (((i : Nat) : Int) < (s.size : Int)) = true := decide_eq_true (by omega)
  have hblank : blankB (byteN s i) = true → X ⟨[(0, .sc (.string s)), (1, .sc (.int .i64 (IntKind.i64.wrap ((i : Int) + 1))))], [], 0, 47, 0⟩ := fun e => by
    have e1 := hyes (by rw [hC, e]; rfl)
    have e2 := hylt (by rw [hC, e]; rfl)
    rw [hF, e] at e1 e2
    rw [hw]
    exact ih (i + 1) ⟨by omega, e1⟩ e2
  have hstop : blankB (byteN s i) = false → slashB s i = false → R = i := fun e1 e2 => hno (by rw [hC, e1, e2]; rfl)
  have hcom : blankB (byteN s i) = false → slashB s i = true → skpP s (runE notNl s i) = R ∧ s.size - runE notNl s i < s.size - i := fun e1 e2 => by
    have a1 := hyes (by rw [hC, e1, e2]; rfl)
    have a2 := hylt (by rw [hC, e1, e2]; rfl)
    rw [hF, e1] at a1 a2
    exact ⟨a1, a2⟩
  clear hyes hylt hno hC hF hR
  have hc : byteAt s (i : Int) = byteN s i := rfl
  have HP := implPref (s.extract i s.size) ⟨#[47, 47]⟩
  rw [pref_slash h1] at HP
  have HI := implIdx (s.extract i s.size) 10
  have hI1 := fun o => @idx_some s i o hi
  have hI2 := @idx_none s i hi
  have hge := Lib.indexByte_ge (s.extract i s.size).data.toList 10
  rw [show (10 : Int).toNat.toUInt8 = (10 : UInt8) from rfl] at HI
  generalize Lib.indexByte (s.extract i s.size).data.toList 10 = K at *
  generalize hb0 : byteN s i = c at *
  generalize blankB c = bl at *
  generalize slashB s i = sl at *
  conv => whnf
  refine chkP_of ?hchk ?_
  case hchk => first | exact decide_eq_true (by omega) | (simp; done) | (simp; omega) | exact hlt
  conv => whnf
  rw [hc]
  refine ifP_of (fun a1 => ?_) (fun a1 => ?_)
  · have a1 : (c == 32) = true := a1
    conv => whnf
    exact hblank (by rw [hB, a1]; rfl)
  have a1 : (c == 32) = false := a1
  conv => whnf
  refine chkP_of ?hchk ?_
  case hchk => first | exact decide_eq_true (by omega) | (simp; done) | (simp; omega) | exact hlt
  conv => whnf
  rw [hc]
  refine ifP_of (fun a2 => ?_) (fun a2 => ?_)
  · have a2 : (c == 9) = true := a2
    conv => whnf
    exact hblank (by rw [hB, a1, a2]; rfl)
  have a2 : (c == 9) = false := a2
  conv => whnf
  refine chkP_of ?hchk ?_
  case hchk => first | exact decide_eq_true (by omega) | (simp; done) | (simp; omega) | exact hlt
  conv => whnf
  rw [hc]
  refine ifP_of (fun a3 => ?_) (fun a3 => ?_)
  · have a3 : (c == 10) = true := a3
    conv => whnf
    exact hblank (by rw [hB, a1, a2, a3]; rfl)
  have a3 : (c == 10) = false := a3
  have hB : bl = false := by rw [hB, a1, a2, a3]; rfl
  subst hB
  replace hstop := hstop rfl
  replace hcom := hcom rfl
  clear hblank hb0 hc
  have hle : decide (((i : Nat) : Int) ≤ (s.size : Int)) = true := decide_eq_true (by omega)
  conv => whnf
  refine chkP_of ?hchk ?_
  case hchk => first | exact decide_eq_true (by omega) | (simp; done) | (simp; omega) | exact hle
  conv => whnf
  refine Fn.use (HP) ?_
  conv => whnf
  first | refine ⟨trivial, ?_⟩ | refine ⟨⟨rfl, clr_of rfl⟩, ?_⟩
  conv => whnf
  refine ifP_of (fun a4 => ?_) (fun a4 => ?_)
  rotate_left
  · have a4 : sl = false := a4
    rw [hstop a4]
    conv => whnf
    exact ⟨rfl, rfl⟩
  have a4 : sl = true := a4
  obtain ⟨r1, r2⟩ := hcom a4
  clear hstop hcom HP
  conv => whnf
  refine chkP_of ?hchk ?_
  case hchk => first | exact decide_eq_true (by omega) | (simp; done) | (simp; omega) | exact hle
  conv => whnf
  refine Fn.use (HI) ?_
  conv => whnf
  first | refine ⟨trivial, ?_⟩ | refine ⟨⟨rfl, clr_of rfl⟩, ?_⟩
  conv => whnf
  refine ifP_of (fun a5 => ?_) (fun a5 => ?_)
  · have a5 : K = -1 := by have := of_decide_eq_true a5; omega
    rw [hI2 a5, skip_end] at r1
    subst r1
    conv => whnf
    exact ⟨rfl, rfl⟩
  · have a5 : ¬ K < 0 := of_decide_eq_false a5
    obtain ⟨o, rfl⟩ : ∃ o : Nat, K = o := ⟨K.toNat, by omega⟩
    obtain ⟨e1, e2⟩ := hI1 o rfl
    rw [e1] at r1 r2
    have hw2 : IntKind.i64.wrap ((i : Int) + (o : Int)) = ((i + o : Nat) : Int) := by rw [wrap64 (by omega) (by omega)]; omega
    conv => whnf
    have h5 := ih (i + o) ⟨by omega, r1⟩ r2
    rw [← hw2] at h5
    exact h5
end Ev
open Go Ev
open Go.Proofs
set_option maxRecDepth 100000
set_option maxHeartbeats 4000000
set_option linter.unusedVariables false
namespace Ev
theorem l3 {a b : V} {c d e f : V} (h1 : a = d) (h2 : b = e) (h3 : c = f) : [a, b, c] = [d, e, f] := by rw [h1, h2, h3]
theorem nameC_eq (c : Int) : nameC c = (letterB c || digitB c) := rfl
/-- The whole number so far, and what is kept of it. -/
def KeptS (a n : Int) : Prop := 0 ≤ a ∧ (a ≤ 2147483647 → n = a) ∧ (2147483647 < a → 2147483647 < n ∧ n ≤ 21474836479)
theorem KeptS.step {a n d : Int} (h : KeptS a n) (h0 : 0 ≤ d) (h1 : d ≤ 9) (hn : n ≤ 2147483647) : KeptS (a * 10 + d) (n * 10 + d) := by
  obtain ⟨k0, k1, k2⟩ := h
  have ha : a ≤ 2147483647 := by
    by_cases e : a ≤ 2147483647
    · exact e
    · have := k2 (by omega); omega
  have := k1 ha
  exact ⟨by omega, fun _ => by omega, fun _ => by omega⟩
theorem KeptS.stay {a n d : Int} (h : KeptS a n) (h0 : 0 ≤ d) (hn : ¬ n ≤ 2147483647) : KeptS (a * 10 + d) n := by
  obtain ⟨k0, k1, k2⟩ := h
  have ha : ¬ a ≤ 2147483647 := fun e => by have := k1 e; omega
  exact ⟨by omega, fun _ => by omega, fun _ => k2 (by omega)⟩
theorem KeptS.gt {a n : Int} (h : KeptS a n) : decide (n > 2147483647) = decide (a > 2147483647) := by
  obtain ⟨k0, k1, k2⟩ := h
  by_cases e : a ≤ 2147483647
  · have := k1 e; rw [this]
  · rw [decide_eq_true (k2 (by omega)).1, decide_eq_true (show a > 2147483647 by omega)]
theorem digit_range {c : Int} (h : digitB c = true) : 0 ≤ c - 48 ∧ c - 48 ≤ 9 := by
  unfold digitB at h
  simp at h
  omega
theorem digit_sub {c : Int} (h : digitB c = true) : IntKind.u8.wrap (c - 48) = c - 48 := by
  have := digit_range h
  rw [IntKind.wrap_u8]; omega
end Ev
open Go Ev
open Go.Proofs
set_option maxRecDepth 100000
set_option maxHeartbeats 4000000
set_option linter.unusedVariables false
namespace Ev
def tokI (s : ByteArray) (i : Nat) : Tok × Int :=
  pick (letterB (byteN s i))
    (pick (decide (runE nameC s i - i > 20)) (⟨0, .empty, 0, 0⟩, 12) (⟨1, s.extract i (runE nameC s i), 0, i⟩, 0))
    (pick (digitB (byteN s i))
      (pick (decide (decN s (runE digitB s i - i) i 0 > 2147483647) || ((byteN s i == 48) && decide (runE digitB s i > i + 1))) (⟨0, .empty, 0, 0⟩, 13) (⟨2, s.extract i (runE digitB s i), decN s (runE digitB s i - i) i 0, i⟩, 0))
      (pick (signB (byteN s i)) (⟨3, s.extract i (i + 1), 0, i⟩, 0) (⟨0, .empty, 0, 0⟩, 11)))
def KeptI (a n : Int) : Prop := 0 ≤ a ∧ n = min a 1099511627776
theorem KeptI.step {a n d : Int} (h : KeptI a n) (h0 : 0 ≤ d) (h1 : d ≤ 9) : KeptI (a * 10 + d) (min (10 * n + d) 1099511627776) := by
  obtain ⟨k0, k1⟩ := h
  refine ⟨by omega, ?_⟩
  omega
theorem KeptI.gt {a n : Int} (h : KeptI a n) : decide (n > 2147483647) = decide (a > 2147483647) := by
  obtain ⟨k0, k1⟩ := h
  exact decide_eq_decide.2 (by omega)
theorem sign_all : ∀ x : Fin 256, decide (Lib.indexByte [123, 125, 61, 59, 44, 46, 45] (UInt8.ofNat x.val) ≥ 0) = signB (x.val : Int) := by decide +kernel
theorem sign_idx {c : Int} (h0 : 0 ≤ c) (h1 : c ≤ 255) : decide (Lib.indexByte [123, 125, 61, 59, 44, 46, 45] c.toNat.toUInt8 ≥ 0) = signB c := by
  have := sign_all ⟨c.toNat, by omega⟩
  dsimp only at this
  rw [show ((c.toNat : Nat) : Int) = c by omega] at this
  exact this
theorem implToken (s : ByteArray) (i : Nat) (hs : s.size ≤ 6000) (hi : i < s.size) : Fn Tryd.prog [] 58 [.sc (.string s), .sc (.int .i64 i)] [] (ret [.agg (tokI s i).1.cs, .sc (.int .i64 (tokI s i).2)] []) := by
  have hr : tokI s i = pick (letterB (byteN s i))
    (pick (decide (runE nameC s i - i > 20)) (⟨0, .empty, 0, 0⟩, 12) (⟨1, s.extract i (runE nameC s i), 0, i⟩, 0))
    (pick (digitB (byteN s i))
      (pick (decide (decN s (runE digitB s i - i) i 0 > 2147483647) || ((byteN s i == 48) && decide (runE digitB s i > i + 1))) (⟨0, .empty, 0, 0⟩, 13) (⟨2, s.extract i (runE digitB s i), decN s (runE digitB s i - i) i 0, i⟩, 0))
      (pick (signB (byteN s i)) (⟨3, s.extract i (i + 1), 0, i⟩, 0) (⟨0, .empty, 0, 0⟩, 11))) := rfl
  generalize tokI s i = R at *
  have hlt : decide (((i : Nat) : Int) < (s.size : Int)) = true := decide_eq_true (by omega)
  have hc : byteAt s (i : Int) = byteN s i := rfl
  have hcr := byte_range s (i : Int)
  rw [hc] at hcr
  have hcw : IntKind.i64.wrap (byteN s i) = byteN s i := wrap64 (by omega) (by omega)
  have hwi : IntKind.i64.wrap ((i : Int) + 1) = ((i + 1 : Nat) : Int) := by rw [wrap64 (by omega) (by omega)]; omega
  have HL := implLetter (byteN s i)
  have HD := implDigit (byteN s i)
  refine fn_of Tryd.func58 (by kernel_rfl) ?_
  conv => whnf
  rw [hwi]
  refine chkP_of ?hchk ?_
  case hchk => first | exact decide_eq_true (by omega) | (simp; done) | (simp; omega) | exact hlt
  conv => whnf
  rw [hc]
  refine Fn.use (HL) ?_
  conv => whnf
  first | refine ⟨trivial, ?_⟩ | refine ⟨⟨rfl, clr_of rfl⟩, ?_⟩
  conv => whnf
  refine ifP_of (fun b1 => ?_) (fun b1 => ?_)
  · have b1 : letterB (byteN s i) = true := b1
    rw [b1] at hr
    have hle := runE_le nameC s (i := i) (by omega)
    have hE1 : runE nameC s i = runE nameC s (i + 1) := runE_yes hi (by rw [nameC_eq, b1]; rfl)
    have hle1 := runE_le nameC s (i := i + 1) (by omega)
    rw [← hE1] at hle1
    generalize hE : runE nameC s i = E at *
    clear HL HD
    conv => whnf
    refine loop_of (A := Nat) (fun j => ⟨[(0, .sc (.string s)), (1, .sc (.int .i64 i)), (4, .ptr 0 [] 0 0), (6, .sc (.int .i64 j))], [(0, some ⟨[zeroTok.cs], true, 4, true⟩)], 1, 104, 0⟩) (fun j => s.size - j) (fun j => i ≤ j ∧ j ≤ s.size ∧ runE nameC s j = E) (i + 1) rfl ⟨by omega, by omega, hE1.symm⟩ ?_
    intro j ⟨hij, hj, hE2⟩ X ih
    have hjc : byteAt s (j : Int) = byteN s j := rfl
    have HL := implLetter (byteN s j)
    have HD := implDigit (byteN s j)
    have hN := nameC_eq (byteN s j)
    have hw : j < s.size → IntKind.i64.wrap ((j : Int) + 1) = ((j + 1 : Nat) : Int) := fun _ => by rw [wrap64 (by omega) (by omega)]; omega
    have hgo : j < s.size → nameC (byteN s j) = true → X ⟨[(0, .sc (.string s)), (1, .sc (.int .i64 i)), (4, .ptr 0 [] 0 0), (6, .sc (.int .i64 (IntKind.i64.wrap ((j : Int) + 1))))], [(0, some ⟨[zeroTok.cs], true, 4, true⟩)], 1, 104, 0⟩ := fun h e => by
      rw [hw h]
      exact ih (j + 1) ⟨by omega, by omega, by rw [← hE2]; exact (runE_yes h e).symm⟩ (by omega)
    have hend : (¬ j < s.size ∨ nameC (byteN s j) = false) → j = E := fun e => by
      rw [← hE2]
      by_cases h : j < s.size
      · exact (runE_no h (e.resolve_left (fun x => x h))).symm
      · exact (runE_end (by omega)).symm
    have hew : j = E → IntKind.i64.wrap ((j : Int) - (i : Int)) = ((E - i : Nat) : Int) := fun e => by subst e; rw [wrap64 (by omega) (by omega)]; omega
    have hex : ∀ e : j = E, decide (IntKind.i64.wrap ((j : Int) - (i : Int)) > 20) = decide (E - i > 20) := fun e => by
      rw [hew e]; exact decide_eq_decide.2 (by omega)
    clear ih
    generalize letterB (byteN s j) = lb at *
    generalize digitB (byteN s j) = db at *
    conv => whnf
    refine ifP_of (fun a1 => ?_) (fun a1 => ?_)
    rotate_left
    · have a1 : ¬ j < s.size := by have := of_decide_eq_false a1; omega
      have e := hend (.inl a1)
      have hx := hex e
      subst e
      conv => whnf
      rw [hx]
      refine ifP_of (fun a9 => ?_) (fun a9 => ?_)
      · rw [a9] at hr
        subst hr
        conv => whnf
        exact ⟨rfl, rfl⟩
      · rw [a9] at hr
        subst hr
        conv => whnf
        refine chkP_of ?hchk ?_
        case hchk => first | exact decide_eq_true (by omega) | (simp; done) | (simp; omega) | exact decide_eq_true (show ((i : Nat) : Int) ≤ (j : Int) by omega)
        conv => whnf
        refine chkP_of ?hchk ?_
        case hchk => first | exact decide_eq_true (by omega) | (simp; done) | (simp; omega) | exact decide_eq_true (show ((j : Nat) : Int) ≤ (s.size : Int) by omega)
        conv => whnf
        exact ⟨rfl, rfl⟩
    have a1 : j < s.size := by have := of_decide_eq_true a1; omega
    have hjl : decide (((j : Nat) : Int) < (s.size : Int)) = true := decide_eq_true (by omega)
    conv => whnf
    refine chkP_of ?hchk ?_
    case hchk => first | exact decide_eq_true (by omega) | (simp; done) | (simp; omega) | exact hjl
    conv => whnf
    rw [hjc]
    refine Fn.use (HL) ?_
    conv => whnf
    first | refine ⟨trivial, ?_⟩ | refine ⟨⟨rfl, clr_of rfl⟩, ?_⟩
    conv => whnf
    refine ifP_of (fun a2 => ?_) (fun a2 => ?_)
    · have a2 : lb = true := a2
      conv => whnf
      exact hgo a1 (by rw [hN, a2]; rfl)
    have a2 : lb = false := a2
    conv => whnf
    refine chkP_of ?hchk ?_
    case hchk => first | exact decide_eq_true (by omega) | (simp; done) | (simp; omega) | exact hjl
    conv => whnf
    rw [hjc]
    refine Fn.use (HD) ?_
    conv => whnf
    first | refine ⟨trivial, ?_⟩ | refine ⟨⟨rfl, clr_of rfl⟩, ?_⟩
    conv => whnf
    refine ifP_of (fun a3 => ?_) (fun a3 => ?_)
    · have a3 : db = true := a3
      conv => whnf
      exact hgo a1 (by rw [hN, a3]; simp)
    have a3 : db = false := a3
    have e := hend (.inr (by rw [hN, a2, a3]; rfl))
    have hx := hex e
    subst e
    conv => whnf
    rw [hx]
    refine ifP_of (fun a9 => ?_) (fun a9 => ?_)
    · rw [a9] at hr
      subst hr
      conv => whnf
      exact ⟨rfl, rfl⟩
    · rw [a9] at hr
      subst hr
      conv => whnf
      refine chkP_of ?hchk ?_
      case hchk => first | exact decide_eq_true (by omega) | (simp; done) | (simp; omega) | exact decide_eq_true (show ((i : Nat) : Int) ≤ (j : Int) by omega)
      conv => whnf
      refine chkP_of ?hchk ?_
      case hchk => first | exact decide_eq_true (by omega) | (simp; done) | (simp; omega) | exact decide_eq_true (show ((j : Nat) : Int) ≤ (s.size : Int) by omega)
      conv => whnf
      exact ⟨rfl, rfl⟩
  have b1 : letterB (byteN s i) = false := b1
  rw [b1] at hr
  conv => whnf
  refine Fn.use (HD) ?_
  conv => whnf
  first | refine ⟨trivial, ?_⟩ | refine ⟨⟨rfl, clr_of rfl⟩, ?_⟩
  conv => whnf
  refine ifP_of (fun b2 => ?_) (fun b2 => ?_)
  · have b2 : digitB (byteN s i) = true := b2
    rw [b2] at hr
    have hle := runE_le digitB s (i := i) (by omega)
    have hE1 : runE digitB s i = runE digitB s (i + 1) := runE_yes hi b2
    have hle1 := runE_le digitB s (i := i + 1) (by omega)
    rw [← hE1] at hle1
    have hd0 := digit_range b2
    have hds0 := digit_sub b2
    have hwd : IntKind.i64.wrap (byteN s i - 48) = byteN s i - 48 := wrap64 (by omega) (by omega)
    generalize hE : runE digitB s i = E at *
    have hN1 : decN s (E - i) i 0 = decN s (E - (i + 1)) (i + 1) (byteN s i - 48) := by
      rw [show E - i = (E - (i + 1)) + 1 by omega, decN, Int.zero_mul, Int.zero_add]
    generalize hN0 : decN s (E - i) i 0 = N at *
    clear HL HD
    conv => whnf
    rw [hds0, hwd]
    refine loop_of (A := Nat × Int × Int) (fun x => ⟨[(0, .sc (.string s)), (1, .sc (.int .i64 i)), (4, .ptr 0 [] 0 0), (6, .sc (.int .i64 x.1)), (7, .sc (.int .u8 (byteN s i))), (8, .sc (.int .i64 x.2.2))], [(0, some ⟨[zeroTok.cs], true, 4, true⟩)], 1, 104, 0⟩) (fun x => s.size - x.1) (fun x => i ≤ x.1 ∧ x.1 ≤ E ∧ runE digitB s x.1 = E ∧ decN s (E - x.1) x.1 x.2.1 = N ∧ KeptI x.2.1 x.2.2) (i + 1, byteN s i - 48, byteN s i - 48) rfl ⟨by dsimp only; omega, hle1.1, hE1.symm, hN1.symm, by unfold KeptI; dsimp only; omega⟩ ?_
    intro ⟨j, a, n⟩ ⟨hij, hjE, hE2, hN, hk⟩ X ih
    dsimp only at hij hjE hE2 hN hk
    have hjc : byteAt s (j : Int) = byteN s j := rfl
    have HD := implDigit (byteN s j)
    have hw : j < s.size → IntKind.i64.wrap ((j : Int) + 1) = ((j + 1 : Nat) : Int) := fun _ => by rw [wrap64 (by omega) (by omega)]; omega
    have hnr : 0 ≤ n ∧ n ≤ 1099511627776 := by obtain ⟨k0, k1⟩ := hk; omega
    have hend : (¬ j < s.size ∨ digitB (byteN s j) = false) → j = E := fun e => by
      rw [← hE2]
      by_cases h : j < s.size
      · exact (runE_no h (e.resolve_left (fun x => x h))).symm
      · exact (runE_end (by omega)).symm
    have hdone : j = E → decide (n > 2147483647) = decide (N > 2147483647) ∧ (decide (N > 2147483647) = false → n = N) := fun e => by
      subst e
      rw [Nat.sub_self] at hN
      have hN : a = N := hN
      subst hN
      exact ⟨hk.gt, fun h => by have := of_decide_eq_false h; have := hk.2; omega⟩
    have hgt : j = E → decide (((j : Nat) : Int) > ((i + 1 : Nat) : Int)) = decide (E > i + 1) := fun e => by subst e; exact decide_eq_decide.2 (by omega)
    have hstep : ∀ m : Int, j < s.size → digitB (byteN s j) = true → KeptI (a * 10 + (byteN s j - 48)) m → X ⟨[(0, .sc (.string s)), (1, .sc (.int .i64 i)), (4, .ptr 0 [] 0 0), (6, .sc (.int .i64 (IntKind.i64.wrap ((j : Int) + 1)))), (7, .sc (.int .u8 (byteN s i))), (8, .sc (.int .i64 m))], [(0, some ⟨[zeroTok.cs], true, 4, true⟩)], 1, 104, 0⟩ := fun m h e hkm => by
      rw [hw h]
      have e2 := runE_yes h e
      have h3 := runE_le digitB s (i := j + 1) (by omega)
      refine ih (j + 1, a * 10 + (byteN s j - 48), m) ⟨by dsimp only; omega, by dsimp only; omega, by dsimp only; rw [← e2]; exact hE2, ?_, hkm⟩ (by dsimp only; omega)
      dsimp only
      rw [← hN, show E - j = (E - (j + 1)) + 1 by omega, decN]
    clear ih
    have hfin : j = E → LoopP (fun _ _ => False) ⟨[], [], 0, 0, 0⟩ → True := fun _ _ => trivial
    clear hfin
    conv => whnf
    refine ifP_of (fun a1 => ?_) (fun a1 => ?_)
    rotate_left
    · have a1 : ¬ j < s.size := by have := of_decide_eq_false a1; omega
      have e := hend (.inl a1)
      obtain ⟨d1, d2⟩ := hdone e
      have d3 := hgt e
      conv => whnf
      rw [d1]
      generalize decide (N > 2147483647) = big at *
      refine ifP_of (fun a9 => ?_) (fun a9 => ?_)
      · have a9 : big = true := a9
        rw [a9, Bool.true_or] at hr
        subst hr
        conv => whnf
        exact ⟨rfl, rfl⟩
      have a9 : big = false := a9
      have d2 := d2 a9
      rw [a9, Bool.false_or] at hr
      conv => whnf
      refine ifP_of (fun c1 => ?_) (fun c1 => ?_)
      rotate_left
      · have c1 : (byteN s i == 48) = false := c1
        rw [c1, Bool.false_and] at hr
        subst hr d2 e
        conv => whnf
        refine chkP_of ?hchk ?_
        case hchk => first | exact decide_eq_true (by omega) | (simp; done) | (simp; omega) | exact decide_eq_true (show ((i : Nat) : Int) ≤ (j : Int) by omega)
        conv => whnf
        refine chkP_of ?hchk ?_
        case hchk => first | exact decide_eq_true (by omega) | (simp; done) | (simp; omega) | exact decide_eq_true (show ((j : Nat) : Int) ≤ (s.size : Int) by omega)
        conv => whnf
        exact ⟨rfl, rfl⟩
      have c1 : (byteN s i == 48) = true := c1
      rw [c1, Bool.true_and] at hr
      conv => whnf
      rw [hwi, d3]
      refine ifP_of (fun c2 => ?_) (fun c2 => ?_)
      · have c2 : decide (E > i + 1) = true := c2
        rw [c2] at hr
        subst hr
        conv => whnf
        exact ⟨rfl, rfl⟩
      · have c2 : decide (E > i + 1) = false := c2
        rw [c2] at hr
        subst hr d2 e
        conv => whnf
        refine chkP_of ?hchk ?_
        case hchk => first | exact decide_eq_true (by omega) | (simp; done) | (simp; omega) | exact decide_eq_true (show ((i : Nat) : Int) ≤ (j : Int) by omega)
        conv => whnf
        refine chkP_of ?hchk ?_
        case hchk => first | exact decide_eq_true (by omega) | (simp; done) | (simp; omega) | exact decide_eq_true (show ((j : Nat) : Int) ≤ (s.size : Int) by omega)
        conv => whnf
        exact ⟨rfl, rfl⟩
    have a1 : j < s.size := by have := of_decide_eq_true a1; omega
    have hjl : decide (((j : Nat) : Int) < (s.size : Int)) = true := decide_eq_true (by omega)
    conv => whnf
    refine chkP_of ?hchk ?_
    case hchk => first | exact decide_eq_true (by omega) | (simp; done) | (simp; omega) | exact hjl
    conv => whnf
    rw [hjc]
    refine Fn.use (HD) ?_
    conv => whnf
    first | refine ⟨trivial, ?_⟩ | refine ⟨⟨rfl, clr_of rfl⟩, ?_⟩
    conv => whnf
    refine ifP_of (fun a3 => ?_) (fun a3 => ?_)
    · have a3 : digitB (byteN s j) = true := a3
      have hd := digit_range a3
      have hds := digit_sub a3
      have hw1 : IntKind.i64.wrap (IntKind.i64.wrap (10 * n) + IntKind.i64.wrap (byteN s j - 48)) = 10 * n + (byteN s j - 48) := by
        rw [wrap64 (n := 10 * n) (by omega) (by omega), wrap64 (n := byteN s j - 48) (by omega) (by omega), wrap64 (by omega) (by omega)]
      conv => whnf
      refine chkP_of ?hchk ?_
      case hchk => first | exact decide_eq_true (by omega) | (simp; done) | (simp; omega) | exact hjl
      conv => whnf
      rw [hjc, hds, hw1]
      exact hstep _ a1 a3 (hk.step hd.1 hd.2)
    have a3 : digitB (byteN s j) = false := a3
    have e := hend (.inr a3)
    obtain ⟨d1, d2⟩ := hdone e
    have d3 := hgt e
    conv => whnf
    rw [d1]
    generalize decide (N > 2147483647) = big at *
    refine ifP_of (fun a9 => ?_) (fun a9 => ?_)
    · have a9 : big = true := a9
      rw [a9, Bool.true_or] at hr
      subst hr
      conv => whnf
      exact ⟨rfl, rfl⟩
    have a9 : big = false := a9
    have d2 := d2 a9
    rw [a9, Bool.false_or] at hr
    conv => whnf
    refine ifP_of (fun c1 => ?_) (fun c1 => ?_)
    rotate_left
    · have c1 : (byteN s i == 48) = false := c1
      rw [c1, Bool.false_and] at hr
      subst hr d2 e
      conv => whnf
      refine chkP_of ?hchk ?_
      case hchk => first | exact decide_eq_true (by omega) | (simp; done) | (simp; omega) | exact decide_eq_true (show ((i : Nat) : Int) ≤ (j : Int) by omega)
      conv => whnf
      refine chkP_of ?hchk ?_
      case hchk => first | exact decide_eq_true (by omega) | (simp; done) | (simp; omega) | exact decide_eq_true (show ((j : Nat) : Int) ≤ (s.size : Int) by omega)
      conv => whnf
      exact ⟨rfl, rfl⟩
    have c1 : (byteN s i == 48) = true := c1
    rw [c1, Bool.true_and] at hr
    conv => whnf
    rw [hwi, d3]
    refine ifP_of (fun c2 => ?_) (fun c2 => ?_)
    · have c2 : decide (E > i + 1) = true := c2
      rw [c2] at hr
      subst hr
      conv => whnf
      exact ⟨rfl, rfl⟩
    · have c2 : decide (E > i + 1) = false := c2
      rw [c2] at hr
      subst hr d2 e
      conv => whnf
      refine chkP_of ?hchk ?_
      case hchk => first | exact decide_eq_true (by omega) | (simp; done) | (simp; omega) | exact decide_eq_true (show ((i : Nat) : Int) ≤ (j : Int) by omega)
      conv => whnf
      refine chkP_of ?hchk ?_
      case hchk => first | exact decide_eq_true (by omega) | (simp; done) | (simp; omega) | exact decide_eq_true (show ((j : Nat) : Int) ≤ (s.size : Int) by omega)
      conv => whnf
      exact ⟨rfl, rfl⟩
  have b2 : digitB (byteN s i) = false := b2
  rw [b2] at hr
  have hx1 : decide (((i : Nat) : Int) ≤ ((i + 1 : Nat) : Int)) = true := decide_eq_true (by omega)
  have hx2 : decide (((i + 1 : Nat) : Int) ≤ (s.size : Int)) = true := decide_eq_true (by omega)
  have HI := implIdx ⟨#[123, 125, 61, 59, 44, 46, 45]⟩ (byteN s i)
  have hsi := sign_idx hcr.1 hcr.2
  have hdl : (⟨#[123, 125, 61, 59, 44, 46, 45]⟩ : ByteArray).data.toList = [123, 125, 61, 59, 44, 46, 45] := rfl
  rw [hdl] at HI
  generalize Lib.indexByte [123, 125, 61, 59, 44, 46, 45] (byteN s i).toNat.toUInt8 = K at *
  conv => whnf
  refine Fn.use (HI) ?_
  conv => whnf
  first | refine ⟨trivial, ?_⟩ | refine ⟨⟨rfl, clr_of rfl⟩, ?_⟩
  conv => whnf
  rw [hsi]
  refine ifP_of (fun b3 => ?_) (fun b3 => ?_)
  · rw [b3] at hr
    subst hr
    conv => whnf
    refine chkP_of ?hchk ?_
    case hchk => first | exact decide_eq_true (by omega) | (simp; done) | (simp; omega) | exact hx1
    conv => whnf
    refine chkP_of ?hchk ?_
    case hchk => first | exact decide_eq_true (by omega) | (simp; done) | (simp; omega) | exact hx2
    conv => whnf
    exact ⟨rfl, rfl⟩
  · rw [b3] at hr
    subst hr
    conv => whnf
    exact ⟨rfl, rfl⟩
end Ev
open Go Ev
open Go.Proofs
set_option maxRecDepth 100000
set_option maxHeartbeats 4000000
set_option linter.unusedVariables false
namespace Ev
theorem runE_gt {p : Int → Bool} {s : ByteArray} {i : Nat} (h : i < s.size) (hp : p (byteN s i) = true) : i < runE p s i ∧ runE p s i ≤ s.size := by
  have h1 : runE p s i = runE p s (i + 1) := runE_yes h hp
  have h2 := runE_le p s (i := i + 1) (by omega)
  omega
theorem tok_end {s : ByteArray} {i : Nat} (h : i < s.size) (hc : (tokP s i).2.2 = 0) : i < (tokP s i).2.1 ∧ (tokP s i).2.1 ≤ s.size := by
  unfold tokP at hc ⊢
  cases h1 : letterB (byteN s i) with
  | true =>
    rw [h1] at hc
    have := runE_gt (p := nameC) h (by rw [nameC_eq, h1]; rfl)
    cases h2 : decide (runE nameC s i - i > 20) with
    | true => rw [h2] at hc; exact absurd hc (by decide : (12 : Int) ≠ 0)
    | false => exact this
  | false =>
    rw [h1] at hc
    cases h2 : digitB (byteN s i) with
    | true =>
      rw [h2] at hc
      have := runE_gt (p := digitB) h h2
      cases h3 : (decide (decN s (runE digitB s i - i) i 0 > 2147483647) || ((byteN s i == 48) && decide (runE digitB s i > i + 1))) with
      | true => rw [h3] at hc; exact absurd hc (by decide : (13 : Int) ≠ 0)
      | false => exact this
    | false =>
      rw [h2] at hc
      cases h3 : signB (byteN s i) with
      | true => exact ⟨Nat.lt_succ_self _, h⟩
      | false => rw [h3] at hc; exact absurd hc (by decide : (11 : Int) ≠ 0)
theorem skip_le (s : ByteArray) {i : Nat} (h : i ≤ s.size) : i ≤ skpP s i ∧ skpP s i ≤ s.size := skip_ge s _ i (Nat.le_refl _) h
theorem lexL_more (s : ByteArray) : ∀ (n m i : Nat) (out : List Tok), s.size - i + 1 ≤ n → s.size - i + 1 ≤ m → lexL s n i out = lexL s m i out
  | 0, m, i, out, h, _ => by omega
  | n + 1, 0, i, out, _, h => by omega
  | n + 1, m + 1, i, out, hn, hm => by
    rw [lexL, lexL]
    cases h1 : decide (i < s.size) with
    | false => rfl
    | true =>
      have hi := of_decide_eq_true h1
      dsimp only
      cases h2 : (tokP s i).2.2 == 0 with
      | false => rfl
      | true =>
        dsimp only
        cases h3 : out.length == 1500 with
        | true => rfl
        | false =>
          dsimp only
          have he := tok_end hi (by simpa using h2)
          have := skip_le s he.2
          exact lexL_more s n m _ _ (by omega) (by omega)
theorem lexL_step {s : ByteArray} {i : Nat} {out : List Tok} (h : i < s.size) (hc : (tokP s i).2.2 = 0) (ho : (out.length == 1500) = false) : lexL s (s.size - i + 1) i out = lexL s (s.size - skpP s (tokP s i).2.1 + 1) (skpP s (tokP s i).2.1) (out ++ [(tokP s i).1]) := by
  rw [lexL, decide_eq_true h]
  dsimp only
  rw [show ((tokP s i).2.2 == 0) = true by simpa using hc]
  dsimp only
  rw [ho]
  have he := tok_end h hc
  have := skip_le s he.2
  exact lexL_more s _ _ _ _ (by omega) (Nat.le_refl _)
theorem lexL_bad {s : ByteArray} {i : Nat} {out : List Tok} (h : i < s.size) (hc : (tokP s i).2.2 ≠ 0) : lexL s (s.size - i + 1) i out = ([], (tokP s i).2.2, (i : Int)) := by
  rw [lexL, decide_eq_true h]
  dsimp only
  rw [show ((tokP s i).2.2 == 0) = false by simpa using hc]
theorem lexL_long {s : ByteArray} {i : Nat} {out : List Tok} (h : i < s.size) (hc : (tokP s i).2.2 = 0) (ho : (out.length == 1500) = true) : lexL s (s.size - i + 1) i out = ([], 14, (i : Int)) := by
  rw [lexL, decide_eq_true h]
  dsimp only
  rw [show ((tokP s i).2.2 == 0) = true by simpa using hc]
  dsimp only
  rw [ho]
theorem lexL_end {s : ByteArray} {i : Nat} {out : List Tok} (h : ¬ i < s.size) : lexL s (s.size - i + 1) i out = (out ++ [⟨4, .empty, 0, (s.size : Int)⟩], 0, 0) := by
  rw [lexL, decide_eq_false h]
theorem Tok.css_snoc (l : List Tok) (t : Tok) : Tok.css l ++ [t.cs] = Tok.css (l ++ [t]) := by unfold Tok.css; rw [List.map_append]; rfl
end Ev
open Go Ev
open Go.Proofs
set_option maxRecDepth 100000
set_option maxHeartbeats 4000000
set_option linter.unusedVariables false
namespace Ev
structure TokOk (t : Tok) : Prop where
  kind : t.kind ≠ 4
  word : t.kind = 1 → ∃ b l, t.text.data.toList = b :: l ∧ letterB (b.toNat : Int) = true
  sign : t.kind = 3 → t.text.size = 1
  num : 0 ≤ t.num ∧ t.num ≤ 2147483647
  size : t.text.size ≤ 20
theorem decN_ge {s : ByteArray} : ∀ (n i : Nat) (a : Int), 0 ≤ a → (∀ k, k < n → digitB (byteN s (i + k)) = true) → 0 ≤ decN s n i a
  | 0, i, a, h, _ => h
  | n + 1, i, a, h, hd => by
    rw [decN]
    have h0 := hd 0 (by omega)
    rw [Nat.add_zero] at h0
    have := digit_range h0
    exact decN_ge n (i + 1) _ (by omega) (fun k hk => by rw [show i + 1 + k = i + (k + 1) by omega]; exact hd (k + 1) (by omega))
theorem run_all {p : Int → Bool} {s : ByteArray} : ∀ (n i : Nat), s.size - i ≤ n → ∀ k, i + k < runE p s i → p (byteN s (i + k)) = true
  | 0, i, hn, k, hk => by rw [runE_end (by omega)] at hk; omega
  | n + 1, i, hn, k, hk => by
    by_cases h : i < s.size
    · cases hp : p (byteN s i) with
      | false => rw [runE_no h hp] at hk; omega
      | true =>
        rw [runE_yes h hp] at hk
        cases k with
        | zero => exact hp
        | succ k =>
          rw [show i + (k + 1) = i + 1 + k by omega] at hk ⊢
          exact run_all n (i + 1) (by omega) k hk
    · rw [runE_end (by omega)] at hk; omega
theorem tok_good {s : ByteArray} {i : Nat} (h : i < s.size) (hc : (tokP s i).2.2 = 0) : TokOk (tokP s i).1 := by
  unfold tokP at hc ⊢
  cases h1 : letterB (byteN s i) with
  | true =>
    rw [h1] at hc
    have h2' := runE_gt (p := nameC) h (by rw [nameC_eq, h1]; rfl)
    cases h2 : decide (runE nameC s i - i > 20) with
    | true => rw [h2] at hc; exact absurd hc (by decide : (12 : Int) ≠ 0)
    | false =>
      have h3 := of_decide_eq_false h2
      refine ⟨(by decide : (1 : Int) ≠ 4), fun _ => ?_, fun e => absurd e (by decide : (1 : Int) ≠ 3), ⟨Int.le_refl 0, (by decide : (0 : Int) ≤ 2147483647)⟩, ?_⟩
      · show ∃ b l, (s.extract i (runE nameC s i)).data.toList = b :: l ∧ _
        rw [ext_list]
        refine ⟨s.data.toList[i]'(by rw [size_list]; exact h), ((s.data.toList.take (runE nameC s i)).drop (i + 1)), ?_, ?_⟩
        · rw [List.drop_eq_getElem_cons (by rw [List.length_take, size_list]; omega)]
          congr 1
          exact List.getElem_take ..
        · rw [byteN_get, List.getElem?_eq_getElem (by rw [size_list]; exact h)] at h1
          exact h1
      · show (s.extract i (runE nameC s i)).size ≤ 20
        rw [ByteArray.size_extract]; omega
  | false =>
    rw [h1] at hc
    cases h2 : digitB (byteN s i) with
    | true =>
      rw [h2] at hc
      cases h3 : (decide (decN s (runE digitB s i - i) i 0 > 2147483647) || ((byteN s i == 48) && decide (runE digitB s i > i + 1))) with
      | true => rw [h3] at hc; exact absurd hc (by decide : (13 : Int) ≠ 0)
      | false =>
        rw [Bool.or_eq_false_iff] at h3
        have h4 := of_decide_eq_false h3.1
        have h5 := decN_ge (s := s) (runE digitB s i - i) i 0 (Int.le_refl _) (fun k hk => run_all _ i (Nat.le_refl _) k (by omega))
        exact ⟨(by decide : (2 : Int) ≠ 4), fun e => absurd e (by decide : (2 : Int) ≠ 1), fun e => absurd e (by decide : (2 : Int) ≠ 3), ⟨h5, by show decN s (runE digitB s i - i) i 0 ≤ _; omega⟩, Nat.zero_le _⟩
    | false =>
      rw [h2] at hc
      cases h3 : signB (byteN s i) with
      | true =>
        have hsz : (s.extract i (i + 1)).size = 1 := by rw [ByteArray.size_extract]; omega
        exact ⟨(by decide : (3 : Int) ≠ 4), fun e => absurd e (by decide : (3 : Int) ≠ 1), fun _ => hsz, ⟨Int.le_refl 0, (by decide : (0 : Int) ≤ 2147483647)⟩, by show (s.extract i (i + 1)).size ≤ 20; omega⟩
      | false => rw [h3] at hc; exact absurd hc (by decide : (11 : Int) ≠ 0)
theorem lexL_good (s : ByteArray) : ∀ (n i : Nat) (out : List Tok), s.size - i + 1 ≤ n → i ≤ s.size → (∀ t ∈ out, TokOk t) → out.length ≤ 1500 → (lexL s n i out).2.1 = 0 → ∃ l, (lexL s n i out).1 = l ++ [⟨4, .empty, 0, (s.size : Int)⟩] ∧ (∀ t ∈ l, TokOk t) ∧ l.length ≤ 1500
  | 0, i, out, h, _, _, _, _ => by omega
  | n + 1, i, out, hn, hi, hall, hlen, hc => by
    rw [lexL] at hc ⊢
    cases h1 : decide (i < s.size) with
    | false => exact ⟨out, rfl, hall, hlen⟩
    | true =>
      have hi := of_decide_eq_true h1
      rw [h1] at hc
      dsimp only at hc ⊢
      cases h2 : (tokP s i).2.2 == 0 with
      | false =>
        rw [h2] at hc
        have hc : (tokP s i).2.2 = 0 := hc
        rw [hc] at h2; cases h2
      | true =>
        rw [h2] at hc
        dsimp only at hc ⊢
        have h2 : (tokP s i).2.2 = 0 := by simpa using h2
        cases h3 : out.length == 1500 with
        | true => rw [h3] at hc; exact absurd hc (by decide : (14 : Int) ≠ 0)
        | false =>
          rw [h3] at hc
          dsimp only at hc ⊢
          have he := tok_end hi h2
          have hk := skip_le s he.2
          have h3 : out.length ≠ 1500 := by simpa using h3
          refine lexL_good s n _ _ (by omega) hk.2 (fun t ht => ?_) (by rw [List.length_append, List.length_singleton]; omega) hc
          rcases List.mem_append.1 ht with ht | ht
          · exact hall t ht
          · obtain rfl := List.mem_singleton.1 ht
            exact tok_good hi h2
theorem lex_toks {s : ByteArray} (h : (lexP s).2.1 = 0) : Toks (lexP s).1 := by
  unfold lexP at h ⊢
  cases h0 : decide ((s.size : Int) > 6000) with
  | true => rw [h0] at h; exact absurd h (by decide : (14 : Int) ≠ 0)
  | false =>
    rw [h0] at h
    simp only [pick] at h ⊢
    have h1 := skip_le s (i := 0) (Nat.zero_le _)
    obtain ⟨l, e, hl, hn⟩ := lexL_good s (s.size + 1) (skpP s 0) [] (by omega) h1.2 (fun t ht => nomatch ht) (Nat.zero_le _) h
    rw [e]
    have hmem : ∀ t ∈ l ++ [(⟨4, .empty, 0, (s.size : Int)⟩ : Tok)], TokOk t ∨ t = ⟨4, .empty, 0, (s.size : Int)⟩ := fun t ht => by
      rcases List.mem_append.1 ht with ht | ht
      · exact .inl (hl t ht)
      · exact .inr (List.mem_singleton.1 ht)
    refine ⟨by rw [List.length_append, List.length_singleton]; omega, by rw [List.length_append, List.length_singleton]; omega, fun i hi hk => ?_, fun t ht hk => ?_, fun t ht hk => ?_, fun t ht => ?_, fun t ht => ?_⟩
    · rw [List.length_append, List.length_singleton] at hi ⊢
      by_cases e2 : i < l.length
      · omega
      · exfalso
        refine hk ?_
        rw [List.getElem_append_right (by omega)]
        simp
    · rcases hmem t ht with h2 | rfl
      · obtain ⟨b, m, e1, e2⟩ := h2.word hk
        refine ⟨fun e3 => ?_, fun x hx e3 => ?_⟩
        · rw [e3] at e1; cases e1
        · rw [e3] at e1
          rcases hx with rfl | rfl | rfl | rfl | rfl | rfl | rfl
          all_goals
            simp only [List.cons.injEq] at e1
            obtain ⟨rfl, _⟩ := e1
            exact absurd e2 (by decide)
      · exact absurd hk (by decide : (4 : Int) ≠ 1)
    · rcases hmem t ht with h2 | rfl
      · exact h2.sign hk
      · exact absurd hk (by decide : (4 : Int) ≠ 3)
    · rcases hmem t ht with h2 | rfl
      · exact h2.num
      · exact ⟨Int.le_refl 0, (by decide : (0 : Int) ≤ 2147483647)⟩
    · rcases hmem t ht with h2 | rfl
      · exact h2.size
      · exact Nat.zero_le _
end Ev
open Go Ev
open Go.Proofs
set_option maxRecDepth 100000
set_option maxHeartbeats 4000000
set_option linter.unusedVariables false
namespace Ev
theorem tokI_code {s : ByteArray} {i : Nat} : (tokI s i).2 = (tokP s i).2.2 := by
  unfold tokI tokP
  cases letterB (byteN s i) with
  | true => cases decide (runE nameC s i - i > 20) <;> rfl
  | false =>
    cases digitB (byteN s i) with
    | true => cases (decide (decN s (runE digitB s i - i) i 0 > 2147483647) || ((byteN s i == 48) && decide (runE digitB s i > i + 1))) <;> rfl
    | false => cases signB (byteN s i) <;> rfl
/-- What the program's token has more: the text of a number. -/
theorem tokI_good {s : ByteArray} {i : Nat} (h : i < s.size) (hc : (tokP s i).2.2 = 0) : (i : Int) + (tokI s i).1.text.size = (tokP s i).2.1 ∧ (tokP s i).1 = ⟨(tokI s i).1.kind, pick ((tokI s i).1.kind == 2) .empty (tokI s i).1.text, (tokI s i).1.num, (tokI s i).1.pos⟩ := by
  unfold tokI tokP at *
  cases h1 : letterB (byteN s i) with
  | true =>
    rw [h1] at hc
    have := runE_gt (p := nameC) h (by rw [nameC_eq, h1]; rfl)
    cases h2 : decide (runE nameC s i - i > 20) with
    | true => rw [h2] at hc; exact absurd hc (by decide : (12 : Int) ≠ 0)
    | false =>
      refine ⟨?_, rfl⟩
      show (i : Int) + (s.extract i (runE nameC s i)).size = (runE nameC s i : Int)
      rw [ByteArray.size_extract]; omega
  | false =>
    rw [h1] at hc
    cases h2 : digitB (byteN s i) with
    | true =>
      rw [h2] at hc
      have := runE_gt (p := digitB) h h2
      cases h3 : (decide (decN s (runE digitB s i - i) i 0 > 2147483647) || ((byteN s i == 48) && decide (runE digitB s i > i + 1))) with
      | true => rw [h3] at hc; exact absurd hc (by decide : (13 : Int) ≠ 0)
      | false =>
        refine ⟨?_, rfl⟩
        show (i : Int) + (s.extract i (runE digitB s i)).size = (runE digitB s i : Int)
        rw [ByteArray.size_extract]; omega
    | false =>
      rw [h2] at hc
      cases h3 : signB (byteN s i) with
      | true =>
        refine ⟨?_, rfl⟩
        show (i : Int) + (s.extract i (i + 1)).size = ((i + 1 : Nat) : Int)
        rw [ByteArray.size_extract]; omega
      | false => rw [h3] at hc; exact absurd hc (by decide : (11 : Int) ≠ 0)
theorem implLex (s : ByteArray) : Fn Tryd.prog [] 32 [.sc (.string s)] [] (ret [.own true 4 (Tok.css (lexP s).1), .agg [.sc (.int .i64 (lexP s).2.1), .sc (.int .i64 (lexP s).2.2)]] []) := by
  have hr : lexP s = pick (decide ((s.size : Int) > 6000)) ([], 14, 0) (lexL s (s.size + 1) (skpP s 0) []) := rfl
  generalize lexP s = R at *
  refine fn_of Tryd.func32 (by kernel_rfl) ?_
  conv => whnf
  refine ifP_of (fun h0 => ?_) (fun h0 => ?_)
  · rw [h0] at hr
    subst hr
    conv => whnf
    exact ⟨rfl, rfl⟩
  rw [h0] at hr
  have hs : s.size ≤ 6000 := by have := of_decide_eq_false h0; omega
  clear h0
  have HS := implSkip s 0 hs (Nat.zero_le _)
  have h1 := skip_le s (i := 0) (Nat.zero_le _)
  replace hr : lexL s (s.size - skpP s 0 + 1) (skpP s 0) [] = R := by
    rw [hr]
    exact lexL_more s _ _ _ _ (Nat.le_refl _) (by omega)
  generalize skpP s 0 = i0 at *
  conv => whnf
  refine Fn.use (HS) ?_
  conv => whnf
  first | refine ⟨trivial, ?_⟩ | refine ⟨⟨rfl, clr_of rfl⟩, ?_⟩
  conv => whnf
  refine loop_of (A := Nat × List Tok) (fun x => ⟨[(0, .sc (.string s)), (3, .ptr 0 [] 0 0), (4, .hdr 1 []), (5, .sc (.int .i64 x.1))], [(0, some ⟨[[.sc (.int .i64 0), .sc (.int .i64 0)]], true, 2, true⟩), (1, some ⟨Tok.css x.2, true, 4, false⟩)], 2, 57, 0⟩) (fun x => s.size - x.1) (fun x => x.1 ≤ s.size ∧ x.2.length ≤ 1500 ∧ lexL s (s.size - x.1 + 1) x.1 x.2 = R) (i0, []) rfl ⟨h1.2, Nat.zero_le _, hr⟩ ?_
  clear hr h1 HS
  intro ⟨i, out⟩ ⟨hi, ho, hr⟩ X ih
  dsimp only at hi ho hr
  have hlo := Tok.css_len out
  have hne : ((Tok.css out).length + 1) * 40 ≤ 140737488355328 := by omega
  conv => whnf
  refine ifP_of (fun c1 => ?_) (fun c1 => ?_)
  rotate_left
  · have c1 : ¬ i < s.size := by have := of_decide_eq_false c1; dsimp only at this; omega
    rw [lexL_end c1] at hr
    subst hr
    conv => whnf
    refine ⟨one_row rfl, ?_⟩
    conv => whnf
    refine chkP_of ?hchk ?_
    case hchk => first | exact decide_eq_true (by omega) | (simp; done) | (simp; omega) | exact decide_eq_true hne
    conv => whnf
    exact ⟨by rw [show (Tok.css out ++ [[V.sc (.int .i64 4), V.sc (.string .empty), V.sc (.int .i64 0), V.sc (.int .i64 (s.size : Int))]]) = Tok.css (out ++ [⟨4, .empty, 0, (s.size : Int)⟩]) from Tok.css_snoc out ⟨4, .empty, 0, (s.size : Int)⟩], rfl⟩
  have c1 : i < s.size := by have := of_decide_eq_true c1; dsimp only at this; omega
  have HT := implToken s i hs c1
  have hb := fun h => @lexL_bad s i out c1 h
  have hl := fun h => @lexL_long s i out c1 h
  have hg := fun h => @lexL_step s i out c1 h
  have he := fun h => @tok_end s i c1 h
  have hT := fun h => @tokI_good s i c1 h
  rw [tokI_code] at HT
  generalize tokP s i = t at *
  generalize (tokI s i).1 = ti at *
  obtain ⟨t, en, code⟩ := t
  obtain ⟨tk, tx, tn, tp⟩ := ti
  dsimp only at hb hl hg he HT hT
  have hlen2 : (((Tok.css out).length : Int) == 1500) = (out.length == 1500) := by
    rw [hlo, Bool.eq_iff_iff, beq_iff_eq, beq_iff_eq]; omega
  have hw : code = 0 → IntKind.i64.wrap ((i : Int) + tx.size) = (en : Int) := fun h => by
    have h1 := (hT h).1
    have h2 := (he h).2
    rw [h1]; exact wrap64 (by omega) (by omega)
  have fin : code = 0 → (out.length == 1500) = false → ∀ x, x = pick (tk == 2) .empty tx → X ⟨[(0, .sc (.string s)), (3, .ptr 0 [] 0 0), (4, .hdr 1 []), (5, .sc (.int .i64 (skpP s en)))], [(0, some ⟨[[.sc (.int .i64 0), .sc (.int .i64 0)]], true, 2, true⟩), (1, some ⟨Tok.css out ++ [Tok.cs ⟨tk, x, tn, tp⟩], true, 4, false⟩)], 2, 57, 0⟩ := fun h1 h2 x hx => by
    rw [Tok.css_snoc, hx]
    have h3 := he h1
    have h4 := skip_le s h3.2
    have h5 : out.length ≠ 1500 := by simpa using h2
    have h6 := (hT h1).2
    have h7 := ih (skpP s en, out ++ [t]) ⟨h4.2, by rw [List.length_append, List.length_singleton]; omega, by rw [← hr]; exact (hg h1 h2).symm⟩ (by dsimp only; omega)
    rw [h6] at h7
    exact h7
  have HS := fun h : code = 0 => implSkip s en hs (he h).2
  clear ih hg he hT
  rw [hr] at hb hl
  clear hr
  conv => whnf
  refine Fn.use (HT) ?_
  conv => whnf
  first | refine ⟨trivial, ?_⟩ | refine ⟨⟨rfl, clr_of rfl⟩, ?_⟩
  conv => whnf
  refine ifP_of (fun c2 => ?_) (fun c2 => ?_)
  · have c2 : (code != 0) = true := c2
    have c3 : code ≠ 0 := by simpa using c2
    obtain rfl := hb c3
    conv => whnf
    exact ⟨rfl, rfl⟩
  have c2 : code = 0 := by have c2 : (code != 0) = false := c2; simpa using c2
  subst c2
  conv => whnf
  rw [hlen2]
  refine ifP_of (fun c3 => ?_) (fun c3 => ?_)
  · have c3 : (out.length == 1500) = true := c3
    obtain rfl := hl rfl c3
    conv => whnf
    exact ⟨rfl, rfl⟩
  have c3 : (out.length == 1500) = false := c3
  have fin := fin rfl c3
  have HS := HS rfl
  have hw := hw rfl
  rw [← hw] at HS
  conv => whnf
  refine ifP_of (fun c4 => ?_) (fun c4 => ?_)
  · have c4 : (tk == 2) = true := c4
    conv => whnf
    refine ⟨one_row rfl, ?_⟩
    conv => whnf
    refine chkP_of ?hchk ?_
    case hchk => first | exact decide_eq_true (by omega) | (simp; done) | (simp; omega) | exact decide_eq_true hne
    conv => whnf
    refine Fn.use (HS) ?_
    conv => whnf
    first | refine ⟨trivial, ?_⟩ | refine ⟨⟨rfl, clr_of rfl⟩, ?_⟩
    conv => whnf
    exact fin .empty (by rw [c4]; rfl)
  · have c4 : (tk == 2) = false := c4
    conv => whnf
    refine ⟨one_row rfl, ?_⟩
    conv => whnf
    refine chkP_of ?hchk ?_
    case hchk => first | exact decide_eq_true (by omega) | (simp; done) | (simp; omega) | exact decide_eq_true hne
    conv => whnf
    refine Fn.use (HS) ?_
    conv => whnf
    first | refine ⟨trivial, ?_⟩ | refine ⟨⟨rfl, clr_of rfl⟩, ?_⟩
    conv => whnf
    exact fin tx (by rw [c4]; rfl)
end Ev
open Go Ev
open Go.Proofs
set_option maxRecDepth 100000
set_option maxHeartbeats 4000000
set_option linter.unusedVariables false
namespace Ev
def finP (T : List Tok) (x : File × Ps) : File × Int × Int :=
  pick ((iter (fun x : File × Ps => fileC T x.2) (fileF T) (muP T x.2) x).2.code == 0) ((iter (fun x : File × Ps => fileC T x.2) (fileF T) (muP T x.2) x).1, 0, 0) (⟨[], []⟩, (iter (fun x : File × Ps => fileC T x.2) (fileF T) (muP T x.2) x).2.code, (iter (fun x : File × Ps => fileC T x.2) (fileF T) (muP T x.2) x).2.pos)
theorem file_fin (T : List Tok) : fileP T = finP T (⟨[], []⟩, ⟨0, 0, 0⟩) := rfl
theorem fin_step {T : List Tok} {x : File × Ps} (h : fileC T x.2 = true) : finP T x = finP T (fileF T x) := by
  unfold finP
  rw [iter_yes (c := fun x : File × Ps => fileC T x.2) (mu := fun x : File × Ps => muP T x.2) (fileF_lt T) h]
theorem fin_end {T : List Tok} {x : File × Ps} (h : fileC T x.2 = false) : finP T x = pick (x.2.code == 0) (x.1, 0, 0) (⟨[], []⟩, x.2.code, x.2.pos) := by
  unfold finP
  rw [iter_no (c := fun x : File × Ps => fileC T x.2) h]
theorem fileC_stuck {T : List Tok} {σ : Ps} (h : σ.code ≠ 0) : fileC T σ = false := by
  unfold fileC
  rw [show (σ.code == 0) = false by simpa using h]; rfl
theorem fin_stuck {T : List Tok} {f g : File} {σ : Ps} (h : σ.code ≠ 0) : finP T (f, σ) = finP T (g, σ) := by
  rw [fin_end (x := (f, σ)) (fileC_stuck h), fin_end (x := (g, σ)) (fileC_stuck h)]
  dsimp only
  rw [show (σ.code == 0) = false by simpa using h]; rfl
theorem moreC_stuck {T : List Tok} {σ : Ps} (h : σ.code ≠ 0) : moreC T σ = false := by
  unfold moreC
  rw [show (σ.code == 0) = false by simpa using h]; rfl
theorem msg_bad {T : List Tok} {σ : Ps} (h : isT T messageB σ = false) (k : Nat) : (msgP T (k + 1) σ).2 = fails T 15 σ := by
  have hw : want T messageB σ = fails T 15 σ := by unfold want; rw [h]; rfl
  have hc := fails_code (T := T) (c := 15) (σ := σ) (by decide)
  show hasS T rbr (iter (fun x : Message × Ps => moreC T x.2) (msgF T (msgP T k)) (muP T (want T lbr (takeS T 1 (want T messageB σ)))) (⟨nameT T (want T messageB σ), [], [], [], [], [], (now T σ).pos⟩, want T lbr (takeS T 1 (want T messageB σ)))).2 = _
  rw [hw, take_stuck hc, want_stuck hc, iter_no (c := fun x : Message × Ps => moreC T x.2) (moreC_stuck hc)]
  exact isT_no (isT_stuck hc)
structure FlB (T : List Tok) (x : File × Ps) : Prop where
  m : x.1.messages.length + muP T x.2 ≤ 1502
  e : x.1.enums.length + muP T x.2 ≤ 1502
theorem fileF_b {T : List Tok} (x : File × Ps) (hc : fileC T x.2 = true) (h : FlB T x) : FlB T (fileF T x) := by
  have hlt := fileF_lt T x hc
  obtain ⟨b1, b2⟩ := h
  unfold fileF at hlt ⊢
  cases h1 : isT T enumB x.2 with
  | true =>
    rw [h1] at hlt
    simp only [pick] at hlt ⊢
    refine ⟨?_, ?_⟩ <;> dsimp only <;> (try rw [List.length_append, List.length_singleton]) <;> omega
  | false =>
    rw [h1] at hlt
    simp only [pick] at hlt ⊢
    refine ⟨?_, ?_⟩ <;> dsimp only <;> (try rw [List.length_append, List.length_singleton]) <;> omega
/-- A text parsed. -/
def parseP (s : ByteArray) : File × Int × Int := pick ((lexP s).2.1 == 0) (fileP (lexP s).1) (⟨[], []⟩, (lexP s).2.1, (lexP s).2.2)
def fileStS (T : List Tok) (x : File × Ps) : St := ⟨[(2, .ptr 0 [] 0 0), (3, .ptr 1 [] 0 0), (6, .ptr 2 [] 0 0), (7, .ptr 3 [] 0 0)], [(0, some ⟨[[.own true 7 [], .own true 3 []]], true, 2, true⟩), (1, some ⟨[[.sc (.int .i64 0), .sc (.int .i64 0)]], true, 2, true⟩), (2, some ⟨[[.own true 4 (Tok.css T), .sc (.int .i64 x.2.at'), .sc (.int .i64 x.2.code), .sc (.int .i64 x.2.pos)]], true, 4, true⟩), (3, some ⟨[[.own true 7 (Message.css x.1.messages), .own true 3 (Enum.css x.1.enums)]], true, 2, true⟩)], 4, 63, 0⟩
theorem fileStS_eq (T : List Tok) (messages : List Message) (enums : List Enum) (σ : Ps) : fileStS T (⟨messages, enums⟩, σ) = ⟨[(2, .ptr 0 [] 0 0), (3, .ptr 1 [] 0 0), (6, .ptr 2 [] 0 0), (7, .ptr 3 [] 0 0)], [(0, some ⟨[[.own true 7 [], .own true 3 []]], true, 2, true⟩), (1, some ⟨[[.sc (.int .i64 0), .sc (.int .i64 0)]], true, 2, true⟩), (2, some ⟨[[.own true 4 (Tok.css T), .sc (.int .i64 σ.at'), .sc (.int .i64 σ.code), .sc (.int .i64 σ.pos)]], true, 4, true⟩), (3, some ⟨[[.own true 7 (Message.css messages), .own true 3 (Enum.css enums)]], true, 2, true⟩)], 4, 63, 0⟩ := rfl
def fileStI (T : List Tok) (x : File × Ps) : St := ⟨[(2, .ptr 0 [] 0 0), (3, .ptr 1 [] 0 0), (6, .ptr 2 [] 0 0), (7, .ptr 3 [] 0 0)], [(0, some ⟨[[.own true 7 [], .own true 3 []]], true, 2, true⟩), (1, some ⟨[[.sc (.int .i64 0), .sc (.int .i64 0)]], true, 2, true⟩), (2, some ⟨[[.own true 4 (Tok.css T), .sc (.int .i64 x.2.at'), .sc (.int .i64 x.2.code), .sc (.int .i64 x.2.pos)]], true, 4, true⟩), (3, some ⟨[[.own true 7 (Message.css x.1.messages), .own true 3 (Enum.css x.1.enums)]], true, 2, true⟩)], 4, 68, 0⟩
theorem fileStI_eq (T : List Tok) (messages : List Message) (enums : List Enum) (σ : Ps) : fileStI T (⟨messages, enums⟩, σ) = ⟨[(2, .ptr 0 [] 0 0), (3, .ptr 1 [] 0 0), (6, .ptr 2 [] 0 0), (7, .ptr 3 [] 0 0)], [(0, some ⟨[[.own true 7 [], .own true 3 []]], true, 2, true⟩), (1, some ⟨[[.sc (.int .i64 0), .sc (.int .i64 0)]], true, 2, true⟩), (2, some ⟨[[.own true 4 (Tok.css T), .sc (.int .i64 σ.at'), .sc (.int .i64 σ.code), .sc (.int .i64 σ.pos)]], true, 4, true⟩), (3, some ⟨[[.own true 7 (Message.css messages), .own true 3 (Enum.css enums)]], true, 2, true⟩)], 4, 68, 0⟩ := rfl
end Ev
open Go Ev
open Go.Proofs
set_option maxRecDepth 100000
set_option maxHeartbeats 4000000
set_option linter.unusedVariables false
namespace Ev
theorem implParse (s : ByteArray) : Fn Tryd.prog [] 16 [.sc (.string s)] [] (ret [.agg (parseP s).1.ocells, .agg [.sc (.int .i64 (parseP s).2.1), .sc (.int .i64 (parseP s).2.2)]] []) := by
  have HL := implLex s
  have hT := @lex_toks s
  have hr : parseP s = pick ((lexP s).2.1 == 0) (fileP (lexP s).1) (⟨[], []⟩, (lexP s).2.1, (lexP s).2.2) := rfl
  generalize parseP s = R at *
  generalize lexP s = L at *
  obtain ⟨T, code, pos⟩ := L
  dsimp only at hr hT HL
  refine fn_of Tryd.func16 d16 ?_
  conv => whnf
  refine Fn.use (HL) ?_
  conv => whnf
  first | refine ⟨trivial, ?_⟩ | refine ⟨⟨rfl, clr_of rfl⟩, ?_⟩
  conv => whnf
  refine ifP_of (fun h0 => ?_) (fun h0 => ?_)
  · have h0 : (code != 0) = true := h0
    rw [show (code == 0) = false by simpa using h0] at hr
    subst hr
    conv => whnf
    refine regP_go ?_
    conv => whnf
    refine And.intro ?_ ?_
    · conv => whnf
      exact ⟨rfl, rfl⟩
    · conv => whnf
      refine And.intro ?_ ?_
      · conv => whnf
        exact ⟨rfl, rfl⟩
      · exact trivial
  have h0 : code = 0 := by have h0 : (code != 0) = false := h0; simpa using h0
  subst h0
  replace hT := hT rfl
  replace hr : finP T (⟨[], []⟩, ⟨0, 0, 0⟩) = R := by rw [hr, ← file_fin]; rfl
  clear HL
  have hml := mu_le hT ⟨0, 0, 0⟩
  conv => whnf
  refine loop_of (A := File × Ps) (fileStI T) (fun x => muP T x.2) (fun x => x.2.In T ∧ FlB T x ∧ finP T x = R) (⟨[], []⟩, ⟨0, 0, 0⟩) rfl ⟨hT.some, ⟨by simpa using hml, by simpa using hml⟩, hr⟩ ?_
  clear hr hml
  intro ⟨⟨messages, enums⟩, σ⟩ ⟨h, hs, hr⟩ X ih
  dsimp only at h hr
  rw [fileStI_eq]
  have hlm := Message.css_len messages
  have hle := Enum.css_len enums
  have hb := hs
  obtain ⟨b1, b2⟩ := hb
  dsimp only at b1 b2
  have HN := implNow h
  have hfc : fileC T σ = (σ.code == 0 && !((now T σ).kind == 4)) := rfl
  have hend : fileC T σ = false → R = pick (σ.code == 0) (⟨messages, enums⟩, 0, 0) (⟨[], []⟩, σ.code, σ.pos) := fun e => by rw [← hr]; exact fin_end (x := (⟨messages, enums⟩, σ)) e
  conv => whnf
  refine ifP_of (fun c1 => ?_) (fun c1 => ?_)
  rotate_left
  · have c1 : (σ.code == 0) = false := c1
    have e := hend (by rw [hfc, c1]; rfl)
    rw [c1] at e
    subst e
    have c2 : (σ.code != 0) = true := by simpa using c1
    conv => whnf
    rw [c2]
    conv => whnf
    refine regP_go ?_
    conv => whnf
    refine And.intro ?_ ?_
    · conv => whnf
      exact ⟨rfl, rfl⟩
    · conv => whnf
      refine And.intro ?_ ?_
      · conv => whnf
        exact ⟨rfl, rfl⟩
      · exact trivial
  have c1 : (σ.code == 0) = true := c1
  have hcode : σ.code = 0 := by simpa using c1
  have c1' : (σ.code != 0) = false := by simpa using c1
  conv => whnf
  refine Fn.use (HN) ?_
  conv => whnf
  first | refine ⟨trivial, ?_⟩ | refine ⟨⟨rfl, clr_of rfl⟩, ?_⟩
  conv => whnf
  refine ifP_of (fun c2 => ?_) (fun c2 => ?_)
  rotate_left
  · have c2 : ((now T σ).kind != 4) = false := c2
    have e := hend (by rw [hfc, c1, show ((now T σ).kind == 4) = true by simpa using c2]; rfl)
    rw [c1] at e
    subst e
    conv => whnf
    rw [c1']
    conv => whnf
    exact ⟨rfl, rfl⟩
  have c2 : ((now T σ).kind != 4) = true := c2
  have hC : fileC T σ = true := by rw [hfc, c1, show ((now T σ).kind == 4) = false by simpa using c2]; rfl
  have hr2 : finP T (fileF T (⟨messages, enums⟩, σ)) = R := by rw [← hr]; exact (fin_step (x := (⟨messages, enums⟩, σ)) hC).symm
  have hlt := fileF_lt T (⟨messages, enums⟩, σ) hC
  have hbb := fileF_b (⟨messages, enums⟩, σ) hC hs
  have hin := fileF_in hT (⟨messages, enums⟩, σ) h
  have hf : fileF T (⟨messages, enums⟩, σ) = pick (isT T enumB σ) ((⟨messages, enums ++ [(enumP T σ).1]⟩ : File), (enumP T σ).2) ((⟨messages ++ [(msgP T 8 σ).1], enums⟩ : File), (msgP T 8 σ).2) := rfl
  rw [hf] at hr2 hlt hbb hin
  clear hf hend hs hr hfc HN
  have HM := implWordB h messageB
  rw [word_is hT h (s := messageB) (by decide) c1] at HM
  have HE := implWordB h enumB
  rw [word_is hT h (s := enumB) (by decide) c1] at HE
  conv => whnf
  refine Fn.use (HM) ?_
  conv => whnf
  first | refine ⟨trivial, ?_⟩ | refine ⟨⟨rfl, clr_of rfl⟩, ?_⟩
  conv => whnf
  cases cm : isT T messageB σ with
  | true =>
    have ce : isT T enumB σ = false := by
      have h1 := (isT_kind cm).2.2
      cases ce : isT T enumB σ with
      | false => rfl
      | true =>
        have h2 := (isT_kind ce).2.2
        rw [h1] at h2
        exact absurd (congrArg ByteArray.size h2) (by decide)
    have HS := implMsg hT 8 1 rfl cm
    rw [ce] at hr2 hlt hbb hin
    generalize msgP T 8 σ = R1 at *
    obtain ⟨⟨q1, q2, q3, q4, q5, q6, q7⟩, σ1⟩ := R1
    simp only [pick] at hr2 hlt hbb hin HS
    have fin : X ⟨[(2, .ptr 0 [] 0 0), (3, .ptr 1 [] 0 0), (6, .ptr 2 [] 0 0), (7, .ptr 3 [] 0 0)], [(0, some ⟨[[.own true 7 [], .own true 3 []]], true, 2, true⟩), (1, some ⟨[[.sc (.int .i64 0), .sc (.int .i64 0)]], true, 2, true⟩), (2, some ⟨[[.own true 4 (Tok.css T), .sc (.int .i64 σ1.at'), .sc (.int .i64 σ1.code), .sc (.int .i64 σ1.pos)]], true, 4, true⟩), (3, some ⟨[[.own true 7 (Message.css messages ++ [Message.cells ⟨q1, q2, q3, q4, q5, q6, q7⟩]), .own true 3 (Enum.css enums)]], true, 2, true⟩)], 4, 68, 0⟩ := by
      rw [Message.css_snoc]
      exact ih _ ⟨hin, hbb, hr2⟩ hlt
    clear ih hr2 hlt hbb hin
    have hne : ((Message.css messages).length + 1) * 144 ≤ 140737488355328 := by omega
    conv => whnf
    refine regP_go ?_
    conv => whnf
    refine And.intro ?_ ?_
    · conv => whnf
      refine Fn.use (HS) ?_
      conv => whnf
      first | refine ⟨trivial, ?_⟩ | refine ⟨⟨rfl, clr_of rfl⟩, ?_⟩
      conv => whnf
      refine ⟨one_row2 rfl, ?_⟩
      conv => whnf
      refine chkP_of ?hchk ?_
      case hchk => first | exact decide_eq_true (by omega) | (simp; done) | (simp; omega) | exact decide_eq_true hne
      conv => whnf
      exact fin
    · conv => whnf
      refine And.intro ?_ ?_
      · conv => whnf
        refine Fn.use (HS) ?_
        conv => whnf
        first | refine ⟨trivial, ?_⟩ | refine ⟨⟨rfl, clr_of rfl⟩, ?_⟩
        conv => whnf
        refine ⟨one_row2 rfl, ?_⟩
        conv => whnf
        refine chkP_of ?hchk ?_
        case hchk => first | exact decide_eq_true (by omega) | (simp; done) | (simp; omega) | exact decide_eq_true hne
        conv => whnf
        exact fin
      · exact trivial
  | false =>
  conv => whnf
  refine Fn.use (HE) ?_
  conv => whnf
  first | refine ⟨trivial, ?_⟩ | refine ⟨⟨rfl, clr_of rfl⟩, ?_⟩
  conv => whnf
  cases ce : isT T enumB σ with
  | true =>
    rw [ce] at hr2 hlt hbb hin
    have HS := implEnum hT ce
    generalize enumP T σ = R1 at *
    obtain ⟨⟨q1, q2, q3⟩, σ1⟩ := R1
    simp only [pick] at hr2 hlt hbb hin HS
    have fin : X ⟨[(2, .ptr 0 [] 0 0), (3, .ptr 1 [] 0 0), (6, .ptr 2 [] 0 0), (7, .ptr 3 [] 0 0)], [(0, some ⟨[[.own true 7 [], .own true 3 []]], true, 2, true⟩), (1, some ⟨[[.sc (.int .i64 0), .sc (.int .i64 0)]], true, 2, true⟩), (2, some ⟨[[.own true 4 (Tok.css T), .sc (.int .i64 σ1.at'), .sc (.int .i64 σ1.code), .sc (.int .i64 σ1.pos)]], true, 4, true⟩), (3, some ⟨[[.own true 7 (Message.css messages), .own true 3 (Enum.css enums ++ [Enum.cells ⟨q1, q2, q3⟩])]], true, 2, true⟩)], 4, 68, 0⟩ := by
      rw [Enum.css_snoc]
      exact ih _ ⟨hin, hbb, hr2⟩ hlt
    clear ih hr2 hlt hbb hin
    have hne : ((Enum.css enums).length + 1) * 48 ≤ 140737488355328 := by omega
    conv => whnf
    refine regP_go ?_
    conv => whnf
    refine And.intro ?_ ?_
    · conv => whnf
      refine Fn.use (HS) ?_
      conv => whnf
      first | refine ⟨trivial, ?_⟩ | refine ⟨⟨rfl, clr_of rfl⟩, ?_⟩
      conv => whnf
      refine ⟨one_row2 rfl, ?_⟩
      conv => whnf
      refine chkP_of ?hchk ?_
      case hchk => first | exact decide_eq_true (by omega) | (simp; done) | (simp; omega) | exact decide_eq_true hne
      conv => whnf
      exact fin
    · conv => whnf
      refine And.intro ?_ ?_
      · conv => whnf
        refine Fn.use (HS) ?_
        conv => whnf
        first | refine ⟨trivial, ?_⟩ | refine ⟨⟨rfl, clr_of rfl⟩, ?_⟩
        conv => whnf
        refine ⟨one_row2 rfl, ?_⟩
        conv => whnf
        refine chkP_of ?hchk ?_
        case hchk => first | exact decide_eq_true (by omega) | (simp; done) | (simp; omega) | exact decide_eq_true hne
        conv => whnf
        exact fin
      · exact trivial
  | false =>
    rw [ce] at hr2 hlt hbb hin
    simp only [pick] at hr2 hlt hbb hin
    have hbad := msg_bad cm 7
    have HF := implFails h 15
    have hfc := fails_code (T := T) (c := 15) (σ := σ) (by decide)
    rw [hbad] at hr2 hlt hbb hin
    rw [fin_stuck (g := ⟨messages, enums⟩) hfc] at hr2
    have hbb2 : FlB T (⟨messages, enums⟩, fails T 15 σ) := by
      have := hbb.m
      have := hbb.e
      dsimp only at *
      rw [List.length_append, List.length_singleton] at *
      exact ⟨by dsimp only; omega, by dsimp only; omega⟩
    have fin := ih (⟨messages, enums⟩, fails T 15 σ) ⟨hin, hbb2, hr2⟩ hlt
    clear ih hr2 hlt hbb hin hbb2
    conv => whnf
    refine Fn.use (HF) ?_
    conv => whnf
    first | refine ⟨trivial, ?_⟩ | refine ⟨⟨rfl, clr_of rfl⟩, ?_⟩
    conv => whnf
    exact fin
end Ev
