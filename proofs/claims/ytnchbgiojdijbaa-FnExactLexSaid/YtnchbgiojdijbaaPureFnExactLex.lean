/- The program's lexer answers as the reference's at every text, its tokens own their memory, and another call leaves them alone. Conditions: none. -/
import Derived.Test.YtnchbgiojdijbaaPFnExactLexx7
import Derived.Test.YtnchbgiojdijbaaLib
set_option linter.unusedSimpArgs false
set_option linter.unusedVariables false
namespace Go.Proofs.Ytnchbgiojdijbaa.Pure
open Go Go.RowKit Go.Proofs.Ytnchbgiojdijbaa.PFnExactLex Go.Proofs.YtnchbgiojdijbaaW.PrintWords Go.Proofs.YtnchbgiojdijbaaW.PrintLast Go.Proofs.YtnchbgiojdijbaaW.PrintMore Go.Proofs.Ytnchbgiojdijbaa.Lib

theorem bt_nat (s : ByteArray) (i : Nat) (h : i < s.size) : bt s (i : Int) = ((s[i]'h).toNat : Int) := by
  unfold bt
  rw [dif_pos (by simpa using h)]
  simp
theorem bt_ext (s : ByteArray) (x i : Nat) (h : x + i < s.size) : bt (s.extract x s.size) (i : Int) = bt s ((x + i : Nat) : Int) := by
  have h1 : i < (s.extract x s.size).size := by rw [ByteArray.size_extract]; omega
  rw [bt_nat _ i h1, bt_nat _ (x + i) h, ByteArray.getElem_extract]
/-- Where a byte first lies. -/
theorem first_bt (s : ByteArray) (c : Int) (h0 : 0 ≤ c) (h1 : c < 256) : (Go.firstIdx s c.toNat.toUInt8 = -1 ∧ ∀ i : Nat, i < s.size → bt s (i : Int) ≠ c) ∨ ∃ i : Nat, Go.firstIdx s c.toNat.toUInt8 = (i : Int) ∧ i < s.size ∧ bt s (i : Int) = c ∧ ∀ j : Nat, j < i → bt s (j : Int) ≠ c := by
  have key : ∀ i : Nat, i < s.size → ((s[i]! == c.toNat.toUInt8) = true ↔ bt s (i : Int) = c) := by
    intro i hi
    rw [bt_nat s i hi, beq_iff_eq, getElem!_pos s i hi]
    constructor
    · intro e
      rw [e]
      simp only [Nat.toUInt8, UInt8.toNat_ofNat']
      omega
    · intro e
      apply UInt8.toNat_inj.1
      simp only [Nat.toUInt8, UInt8.toNat_ofNat']
      omega
  unfold Go.firstIdx
  cases hf : (List.range s.size).find? fun i => s[i]! == c.toNat.toUInt8 with
  | none =>
    left
    refine ⟨rfl, fun i hi e => ?_⟩
    have := List.find?_eq_none.1 hf i (List.mem_range.2 hi)
    exact this ((key i hi).2 e)
  | some i =>
    right
    have hi : i < s.size := List.mem_range.1 (List.mem_of_find?_eq_some hf)
    obtain ⟨hp, k, hk, hk2, hk3⟩ := List.find?_eq_some_iff_getElem.1 hf
    rw [List.getElem_range] at hk2
    subst hk2
    refine ⟨k, rfl, hi, (key k hi).1 hp, fun j hj e => ?_⟩
    have := hk3 j hj
    rw [List.getElem_range] at this
    have h2 := (key j (by omega)).2 e
    simp only [h2] at this
    exact Bool.noConfusion this
/-- Two slashes at the head. -/
theorem prefix_bt (s : ByteArray) : stringslite_HasPrefix.f s (⟨#[47, 47]⟩ : ByteArray) = some (decide (2 ≤ s.size ∧ bt s 0 = 47 ∧ bt s 1 = 47)) := by
  unfold stringslite_HasPrefix.f
  have hs : ((⟨#[47, 47]⟩ : ByteArray).size : Int) = 2 := rfl
  rw [hs]
  by_cases h : (s.size : Int) ≥ 2
  · rw [if_pos h, if_pos (by decide), if_pos h]
    refine congrArg some ?_
    obtain ⟨⟨l⟩⟩ := s
    match l, h with
    | [], h => exact absurd h (show ¬ ((0 : Nat) : Int) ≥ 2 by decide)
    | [a], h => exact absurd h (show ¬ ((1 : Nat) : Int) ≥ 2 by decide)
    | a :: b :: t, h =>
      have e1 : bt (⟨⟨a :: b :: t⟩⟩ : ByteArray) 0 = (a.toNat : Int) := bt_nat ⟨⟨a :: b :: t⟩⟩ 0 (show 0 < t.length + 1 + 1 by omega)
      have e2 : bt (⟨⟨a :: b :: t⟩⟩ : ByteArray) 1 = (b.toNat : Int) := bt_nat ⟨⟨a :: b :: t⟩⟩ 1 (show 1 < t.length + 1 + 1 by omega)
      have e3 : ((⟨⟨a :: b :: t⟩⟩ : ByteArray).extract 0 (2 : Int).toNat).toList = [a, b] := by
        have := ByteArray.extract_mk (a :: b :: t) 0 2
        rw [show (2 : Int).toNat = 2 from rfl]
        refine (congrArg ByteArray.toList this).trans ?_
        rw [ByteArray.toList_mk]; rfl
      have e4 : (⟨#[47, 47]⟩ : ByteArray).toList = [47, 47] := ByteArray.toList_mk [47, 47]
      have e5 : 2 ≤ (⟨⟨a :: b :: t⟩⟩ : ByteArray).size := by
        show 2 ≤ t.length + 1 + 1
        omega
      rw [e1, e2, e3, e4]
      have ha : (a.toNat : Int) = 47 ↔ a = 47 := by
        constructor
        · intro e; apply UInt8.toNat_inj.1; show a.toNat = 47; omega
        · rintro rfl; rfl
      have hb : (b.toNat : Int) = 47 ↔ b = 47 := by
        constructor
        · intro e; apply UInt8.toNat_inj.1; show b.toNat = 47; omega
        · rintro rfl; rfl
      simp only [ha, hb]
      by_cases h1 : a = 47 <;> by_cases h2 : b = 47 <;> simp [h1, h2]
      show 2 ≤ t.length + 1 + 1
      omega
  · rw [if_neg h]
    refine congrArg some (decide_eq_false ?_).symm
    omega

theorem spec_line (s : ByteArray) (hs : s.size ≤ 1000000) : ∀ (d x : Nat), s.size - x = d → x ≤ s.size → ∃ y, x ≤ y ∧ y ≤ s.size ∧ (∀ j : Nat, x ≤ j → j < y → bt s (j : Int) ≠ 10) ∧ (y < s.size → bt s (y : Int) = 10) ∧ ∀ k, (y - x) + 1 ≤ k → spec_l3Skip.l1 k s (x : Int) = spec_l3Skip.l0 (k - (y - x) - 1) s (y : Int) := by
  intro d
  induction d with
  | zero =>
    intro x hd hx
    refine ⟨x, Nat.le_refl _, hx, fun j h1 h2 => by omega, fun h => by omega, fun k hk => ?_⟩
    obtain ⟨k, rfl⟩ : ∃ m, k = m + 1 := ⟨k - 1, by omega⟩
    simp only [spec_l3Skip.l1]
    rw [if_neg (by omega), show k + 1 - (x - x) - 1 = k by omega]
  | succ d ih =>
    intro x hd hx
    by_cases h10 : bt s (x : Int) = 10
    · refine ⟨x, Nat.le_refl _, hx, fun j h1 h2 => by omega, fun _ => h10, fun k hk => ?_⟩
      obtain ⟨k, rfl⟩ : ∃ m, k = m + 1 := ⟨k - 1, by omega⟩
      simp only [spec_l3Skip.l1]
      rw [if_pos (show (x : Int) < (s.size : Int) by omega), if_pos (show (0 : Int) ≤ (x : Int) by omega), if_pos h10, show k + 1 - (x - x) - 1 = k by omega]
    · obtain ⟨y, y1, y2, y3, y4, y5⟩ := ih (x + 1) (by omega) (by omega)
      refine ⟨y, by omega, y2, fun j h1 h2 => ?_, y4, fun k hk => ?_⟩
      · by_cases e : j = x
        · rw [e]; exact h10
        · exact y3 j (by omega) h2
      · obtain ⟨k, rfl⟩ : ∃ m, k = m + 1 := ⟨k - 1, by omega⟩
        simp only [spec_l3Skip.l1]
        rw [if_pos (show (x : Int) < (s.size : Int) by omega), if_pos (show (0 : Int) ≤ (x : Int) by omega), if_neg h10, w64 (by omega) (by omega), show (x : Int) + 1 = ((x + 1 : Nat) : Int) by omega, y5 k (by omega), show k - (y - (x + 1)) - 1 = k + 1 - (y - x) - 1 by omega]
/-- What stands between two words is passed over alike. -/
theorem skip_same (s : ByteArray) (hs : s.size ≤ 1000000) : ∀ (d x : Nat), s.size - x ≤ d → x ≤ s.size → ∃ p : Nat, x ≤ p ∧ p ≤ s.size ∧ (∀ k, 4 * (s.size - x) + 8 ≤ k → impl_passOver.l0 k s (x : Int) = some (p : Int)) ∧ (∀ k, 4 * (s.size - x) + 8 ≤ k → spec_l3Skip.l0 k s (x : Int) = some (p : Int)) := by
  intro d
  induction d with
  | zero =>
    intro x hd hx
    refine ⟨x, Nat.le_refl _, hx, fun k hk => ?_, fun k hk => ?_⟩ <;> obtain ⟨k, rfl⟩ : ∃ m, k = m + 1 := ⟨k - 1, by omega⟩
    · simp only [impl_passOver.l0]; rw [if_neg (by omega)]
    · simp only [spec_l3Skip.l0]; rw [if_neg (by omega)]
  | succ d ih =>
    intro x hd hx
    by_cases hlt : x < s.size
    · have q1 : (x : Int) < (s.size : Int) := by omega
      have q0 : (0 : Int) ≤ (x : Int) := by omega
      have qw : wrap64 ((x : Int) + 1) = ((x + 1 : Nat) : Int) := by rw [w64 (by omega) (by omega)]; omega
      have qj : ∀ b : Bool, b = (bt s (x : Int) == 10) → (if bt s (x : Int) = 32 then true else if bt s (x : Int) = 9 then true else b) = decide (bt s (x : Int) = 32 ∨ bt s (x : Int) = 9 ∨ bt s (x : Int) = 10) := by
        intro b hb
        subst hb
        by_cases h1 : bt s (x : Int) = 32
        · simp [h1]
        · by_cases h2 : bt s (x : Int) = 9
          · simp [h2]
          · by_cases h3 : bt s (x : Int) = 10 <;> simp [h1, h2, h3]
      have ei : ∀ k, impl_passOver.l0 (k + 1) s (x : Int) = impl_passOver.j1 k s (x : Int) (decide (bt s (x : Int) = 32 ∨ bt s (x : Int) = 9 ∨ bt s (x : Int) = 10)) := by
        intro k
        simp only [impl_passOver.l0]
        rw [if_pos q1, if_pos q0, ← qj _ rfl]
        split
        · rfl
        · split <;> rfl
      have es : ∀ k, spec_l3Skip.l0 (k + 1) s (x : Int) = spec_l3Skip.j1 k s (x : Int) (decide (bt s (x : Int) = 32 ∨ bt s (x : Int) = 9 ∨ bt s (x : Int) = 10)) := by
        intro k
        simp only [spec_l3Skip.l0]
        rw [if_pos q1, if_pos q0, ← qj _ rfl]
        split
        · rfl
        · split <;> rfl
      by_cases hb : bt s (x : Int) = 32 ∨ bt s (x : Int) = 9 ∨ bt s (x : Int) = 10
      · obtain ⟨p, p1, p2, p3, p4⟩ := ih (x + 1) (by omega) (by omega)
        refine ⟨p, by omega, p2, fun k hk => ?_, fun k hk => ?_⟩ <;> obtain ⟨k, rfl⟩ : ∃ m, k = m + 2 := ⟨k - 2, by omega⟩
        · rw [ei, decide_eq_true hb]
          simp only [impl_passOver.j1, if_true]
          rw [qw]; exact p3 k (by omega)
        · rw [es, decide_eq_true hb]
          simp only [spec_l3Skip.j1, if_true]
          rw [qw]; exact p4 k (by omega)
      · have hpre := prefix_bt (s.extract x s.size)
        have hsz : (s.extract x s.size).size = s.size - x := by rw [ByteArray.size_extract]; omega
        have hx0 : bt (s.extract x s.size) 0 = bt s (x : Int) := by
          have := bt_ext s x 0 (by omega)
          rw [Nat.add_zero] at this; exact this
        by_cases hc : x + 1 < s.size ∧ bt s (x : Int) = 47 ∧ bt s ((x + 1 : Nat) : Int) = 47
        · obtain ⟨c1, c2, c3⟩ := hc
          have hx1 : bt (s.extract x s.size) 1 = bt s ((x + 1 : Nat) : Int) := bt_ext s x 1 c1
          have hp : stringslite_HasPrefix.f (s.extract x s.size) (⟨#[47, 47]⟩ : ByteArray) = some true := by
            rw [hpre, decide_eq_true ⟨by omega, by omega, by omega⟩]
          obtain ⟨y, y1, y2, y3, y4, y5⟩ := spec_line s hs (s.size - x) x rfl hx
          have hxy : x < y := by
            rcases Nat.lt_or_ge x y with h | h
            · exact h
            · have : y = x := by omega
              subst this
              have := y4 hlt
              omega
          have hxy2 : x + 2 ≤ y := by
            rcases Nat.lt_or_ge (x + 1) y with h | h
            · omega
            · have : y = x + 1 := by omega
              subst this
              have := y4 c1
              omega
          obtain ⟨p, p1, p2, p3, p4⟩ := ih y (by omega) y2
          refine ⟨p, by omega, p2, fun k hk => ?_, fun k hk => ?_⟩
          · obtain ⟨k, rfl⟩ : ∃ m, k = m + 2 := ⟨k - 2, by omega⟩
            rw [ei, decide_eq_false hb]
            simp only [impl_passOver.j1, Bool.false_eq_true, if_false, strings_HasPrefix.f, strings_IndexByte.f, stringslite_IndexByte.f, Int.toNat_natCast]
            rw [if_pos q0, if_pos (show (x : Int) ≤ (s.size : Int) by omega), hp]
            simp only [Option.bind_some, if_true]
            rcases first_bt (s.extract x s.size) 10 (by decide) (by decide) with ⟨f1, f2⟩ | ⟨i, f1, f2, f3, f4⟩
            · have hy : y = s.size := by
                rcases Nat.lt_or_ge y s.size with h | h
                · exfalso
                  have e := f2 (y - x) (by omega)
                  rw [bt_ext s x (y - x) (by omega), show x + (y - x) = y by omega] at e
                  exact e (y4 h)
                · omega
              have hpN : p = s.size := by omega
              rw [f1, if_pos (by decide), hpN]
            · rw [bt_ext s x i (by omega)] at f3
              have hiy : x + i = y := by
                rcases Nat.lt_trichotomy (x + i) y with h | h | h
                · exact absurd f3 (y3 (x + i) (by omega) h)
                · exact h
                · exfalso
                  have e := f4 (y - x) (by omega)
                  rw [bt_ext s x (y - x) (by omega), show x + (y - x) = y by omega] at e
                  exact e (y4 (by omega))
              rw [f1, if_neg (by omega), w64 (by omega) (by omega), show (x : Int) + (i : Int) = ((y : Nat) : Int) by omega]
              exact p3 k (by omega)
          · obtain ⟨k, rfl⟩ : ∃ m, k = m + 3 := ⟨k - 3, by omega⟩
            rw [es, decide_eq_false hb]
            simp only [spec_l3Skip.j1, Bool.false_eq_true, if_false]
            rw [if_pos q0, if_pos q1, if_pos c2, qw, if_pos (show ((x + 1 : Nat) : Int) < (s.size : Int) by omega), if_pos (show (0 : Int) ≤ ((x + 1 : Nat) : Int) by omega), show (bt s ((x + 1 : Nat) : Int) == 47) = true from beq_iff_eq.mpr c3]
            simp only [spec_l3Skip.j2, if_true]
            rw [y5 k (by omega)]
            exact p4 _ (by omega)
        · have hp : stringslite_HasPrefix.f (s.extract x s.size) (⟨#[47, 47]⟩ : ByteArray) = some false := by
            rw [hpre]
            refine congrArg some (decide_eq_false ?_)
            rintro ⟨e1, e2, e3⟩
            have c1 : x + 1 < s.size := by omega
            have hx1 : bt (s.extract x s.size) 1 = bt s ((x + 1 : Nat) : Int) := bt_ext s x 1 c1
            exact hc ⟨c1, by omega, by omega⟩
          refine ⟨x, Nat.le_refl _, hx, fun k hk => ?_, fun k hk => ?_⟩
          · obtain ⟨k, rfl⟩ : ∃ m, k = m + 2 := ⟨k - 2, by omega⟩
            rw [ei, decide_eq_false hb]
            simp only [impl_passOver.j1, Bool.false_eq_true, if_false, strings_HasPrefix.f, Int.toNat_natCast]
            rw [if_pos q0, if_pos (show (x : Int) ≤ (s.size : Int) by omega), hp]
            simp only [Option.bind_some, Bool.false_eq_true, if_false]
          · obtain ⟨k, rfl⟩ : ∃ m, k = m + 3 := ⟨k - 3, by omega⟩
            rw [es, decide_eq_false hb]
            simp only [spec_l3Skip.j1, Bool.false_eq_true, if_false]
            rw [if_pos q0, if_pos q1, qw]
            by_cases c2 : bt s (x : Int) = 47
            · rw [if_pos c2]
              by_cases c1 : x + 1 < s.size
              · rw [if_pos (show ((x + 1 : Nat) : Int) < (s.size : Int) by omega), if_pos (show (0 : Int) ≤ ((x + 1 : Nat) : Int) by omega), show (bt s ((x + 1 : Nat) : Int) == 47) = false from beq_eq_false_iff_ne.mpr (fun e => hc ⟨c1, c2, e⟩)]
                simp only [spec_l3Skip.j2, Bool.false_eq_true, if_false]
              · rw [if_neg (show ¬ ((x + 1 : Nat) : Int) < (s.size : Int) by omega)]
                simp only [spec_l3Skip.j2, Bool.false_eq_true, if_false]
            · rw [if_neg c2]
              simp only [spec_l3Skip.j2, Bool.false_eq_true, if_false]
    · refine ⟨x, Nat.le_refl _, hx, fun k hk => ?_, fun k hk => ?_⟩ <;> obtain ⟨k, rfl⟩ : ∃ m, k = m + 1 := ⟨k - 1, by omega⟩
      · simp only [impl_passOver.l0]; rw [if_neg (by omega)]
      · simp only [spec_l3Skip.l0]; rw [if_neg (by omega)]

/-- A letter or '_', a figure. -/
def isL (c : Int) : Bool := decide (97 ≤ c ∧ c ≤ 122 ∨ 65 ≤ c ∧ c ≤ 90 ∨ c = 95)
def isD (c : Int) : Bool := decide (48 ≤ c ∧ c ≤ 57)
theorem letter_impl (c : Int) : impl_isLetter.f c = some (isL c) := by
  unfold impl_isLetter.f isL
  repeat' split
  all_goals refine congrArg some ?_
  all_goals first
    | (symm; apply decide_eq_true; omega)
    | (rw [Bool.eq_iff_iff, beq_iff_eq, decide_eq_true_iff]; omega)
theorem digit_impl (c : Int) : impl_isDigit.f c = some (isD c) := by
  unfold impl_isDigit.f isD
  by_cases h1 : c ≥ 48
  · rw [if_pos h1]; refine congrArg some ?_; rw [Bool.eq_iff_iff, decide_eq_true_iff, decide_eq_true_iff]; omega
  · rw [if_neg h1]; refine congrArg some (decide_eq_false ?_).symm; omega
theorem in_spec (c a b : Int) : spec_l1In.f c a b = some (decide (a ≤ c ∧ c ≤ b)) := by
  unfold spec_l1In.f
  by_cases h1 : c ≥ a
  · rw [if_pos h1]; refine congrArg some ?_; rw [Bool.eq_iff_iff, decide_eq_true_iff, decide_eq_true_iff]; omega
  · rw [if_neg h1]; refine congrArg some (decide_eq_false ?_).symm; omega
theorem digit_spec (c : Int) : spec_l3Digit.f c = some (isD c) := by
  unfold spec_l3Digit.f isD
  rw [in_spec]; rfl
theorem letter_spec (c : Int) : spec_l3Letter.f c = some (isL c) := by
  unfold spec_l3Letter.f isL
  rw [in_spec, in_spec]
  simp only [Option.bind_some, decide_eq_true_eq]
  by_cases h1 : 97 ≤ c ∧ c ≤ 122
  · rw [if_pos h1]; refine congrArg some (decide_eq_true ?_).symm; omega
  · rw [if_neg h1]
    by_cases h2 : 65 ≤ c ∧ c ≤ 90
    · rw [if_pos h2]; refine congrArg some (decide_eq_true ?_).symm; omega
    · rw [if_neg h2]; refine congrArg some ?_; rw [Bool.eq_iff_iff, beq_iff_eq, decide_eq_true_iff]; omega
theorem bt64 (s : ByteArray) (i : Int) : wrap64 (bt s i) = bt s i := by
  have := bt_range s i
  exact w64 (by omega) (by omega)
/-- A word's end. -/
theorem word_same (s : ByteArray) (hs : s.size ≤ 1000000) (x : Nat) : ∀ (d y : Nat), s.size - y = d → x ≤ y → y ≤ s.size → ∃ e : Nat, y ≤ e ∧ e ≤ s.size ∧
    (∀ k, (s.size - y) + 1 ≤ k → impl_token.l0 k s (x : Int) (y : Int) = if e - x > 20 then some (0, (⟨#[]⟩ : ByteArray), 0, 0, 12) else some (1, s.extract x e, 0, (x : Int), 0)) ∧
    (∀ k, (s.size - y) + 1 ≤ k → spec_l3Token.l0 k s (x : Int) (y : Int) = if e - x > 20 then some (0, (⟨#[]⟩ : ByteArray), 0, 0, (x : Int), 12) else some (1, s.extract x e, 0, (x : Int), (e : Int), 0)) := by
  intro d
  have fi : ∀ y : Nat, x ≤ y → y ≤ s.size → (if (wrap64 ((y : Int) - (x : Int))) > 20 then (some ((0 : Int), (⟨#[]⟩ : ByteArray), (0 : Int), (0 : Int), (12 : Int))) else (if 0 ≤ (x : Int) then (if (x : Int) ≤ (y : Int) then (if (y : Int) ≤ (s.size : Int) then (some (1, s.extract (x : Int).toNat (y : Int).toNat, 0, (x : Int), 0)) else (none)) else (none)) else (none))) = if y - x > 20 then some (0, (⟨#[]⟩ : ByteArray), 0, 0, 12) else some (1, s.extract x y, 0, (x : Int), 0) := by
    intro y h1 h2
    rw [w64 (by omega) (by omega)]
    by_cases h : y - x > 20
    · rw [if_pos h, if_pos (by omega)]
    · rw [if_neg h, if_neg (by omega), if_pos (by omega), if_pos (by omega), if_pos (by omega), Int.toNat_natCast, Int.toNat_natCast]
  have fs : ∀ y : Nat, x ≤ y → y ≤ s.size → (if (wrap64 ((y : Int) - (x : Int))) > 20 then (some ((0 : Int), (⟨#[]⟩ : ByteArray), (0 : Int), (0 : Int), (x : Int), (12 : Int))) else (if 0 ≤ (x : Int) then (if (x : Int) ≤ (y : Int) then (if (y : Int) ≤ (s.size : Int) then (some (1, s.extract (x : Int).toNat (y : Int).toNat, 0, (x : Int), (y : Int), 0)) else (none)) else (none)) else (none))) = if y - x > 20 then some (0, (⟨#[]⟩ : ByteArray), 0, 0, (x : Int), 12) else some (1, s.extract x y, 0, (x : Int), (y : Int), 0) := by
    intro y h1 h2
    rw [w64 (by omega) (by omega)]
    by_cases h : y - x > 20
    · rw [if_pos h, if_pos (by omega)]
    · rw [if_neg h, if_neg (by omega), if_pos (by omega), if_pos (by omega), if_pos (by omega), Int.toNat_natCast, Int.toNat_natCast]
  induction d with
  | zero =>
    intro y hd h1 h2
    refine ⟨y, Nat.le_refl _, h2, fun k hk => ?_, fun k hk => ?_⟩ <;> obtain ⟨k, rfl⟩ : ∃ m, k = m + 1 := ⟨k - 1, by omega⟩
    · simp only [impl_token.l0]; rw [if_neg (by omega)]; exact fi y h1 h2
    · simp only [spec_l3Token.l0]; rw [if_neg (by omega)]; exact fs y h1 h2
  | succ d ih =>
    intro y hd h1 h2
    have q1 : (y : Int) < (s.size : Int) := by omega
    have q0 : (0 : Int) ≤ (y : Int) := by omega
    have qw : wrap64 ((y : Int) + 1) = ((y + 1 : Nat) : Int) := by rw [w64 (by omega) (by omega)]; omega
    by_cases hg : isL (bt s (y : Int)) = true ∨ isD (bt s (y : Int)) = true
    · obtain ⟨e, e1, e2, e3, e4⟩ := ih (y + 1) (by omega) (by omega) (by omega)
      refine ⟨e, by omega, e2, fun k hk => ?_, fun k hk => ?_⟩ <;> obtain ⟨k, rfl⟩ : ∃ m, k = m + 1 := ⟨k - 1, by omega⟩
      · simp only [impl_token.l0, letter_impl, digit_impl, Option.bind_some]
        rw [if_pos q1, if_pos q0, qw, e3 k (by omega)]
        rcases hg with hg | hg
        · rw [if_pos hg]
        · rw [if_pos hg]; split <;> rfl
      · simp only [spec_l3Token.l0, letter_spec, digit_spec, Option.bind_some, bt64]
        rw [if_pos q1, if_pos q0, qw, e4 k (by omega)]
        rcases hg with hg | hg
        · rw [if_pos hg]
        · rw [if_pos hg]; split <;> rfl
    · have g1 : ¬ isL (bt s (y : Int)) = true := fun h => hg (.inl h)
      have g2 : ¬ isD (bt s (y : Int)) = true := fun h => hg (.inr h)
      refine ⟨y, Nat.le_refl _, h2, fun k hk => ?_, fun k hk => ?_⟩ <;> obtain ⟨k, rfl⟩ : ∃ m, k = m + 1 := ⟨k - 1, by omega⟩
      · simp only [impl_token.l0, letter_impl, digit_impl, Option.bind_some]
        rw [if_pos q1, if_pos q0, if_neg g1, if_neg g2]; exact fi y h1 h2
      · simp only [spec_l3Token.l0, letter_spec, digit_spec, Option.bind_some, bt64]
        rw [if_pos q1, if_pos q0, if_neg g1, if_neg g2]; exact fs y h1 h2
theorem mn_le (a b : Int) : mn a b = if b < a then b else a := rfl
/-- How far the value of a number has got, in both. -/
def numR (a b : Int) : Prop := (a = b ∧ 0 ≤ a ∧ a ≤ 2147483647) ∨ (2147483647 < a ∧ a ≤ 1099511627776 ∧ 2147483647 < b ∧ b ≤ 21474836479)
def finI (s : ByteArray) (x y c0 a : Int) : Option (Int × ByteArray × Int × Int × Int) := (if a > 2147483647 then (some (0, (⟨#[]⟩ : ByteArray), 0, 0, 13)) else (if c0 = 48 then (if y > (wrap64 (x + 1)) then (some (0, (⟨#[]⟩ : ByteArray), 0, 0, 13)) else (if 0 ≤ x then (if x ≤ y then (if y ≤ (s.size : Int) then (some (2, s.extract (x : Int).toNat (y : Int).toNat, a, x, 0)) else (none)) else (none)) else (none))) else (if 0 ≤ x then (if x ≤ y then (if y ≤ (s.size : Int) then (some (2, s.extract (x : Int).toNat (y : Int).toNat, a, x, 0)) else (none)) else (none)) else (none))))
def finS (x y c0 b : Int) : Option (Int × ByteArray × Int × Int × Int × Int) := (if b > 2147483647 then (some (0, (⟨#[]⟩ : ByteArray), 0, 0, x, 13)) else (if c0 = 48 then (if y > (wrap64 (x + 1)) then (some (0, (⟨#[]⟩ : ByteArray), 0, 0, x, 13)) else (some (2, (⟨#[]⟩ : ByteArray), b, x, y, 0))) else (some (2, (⟨#[]⟩ : ByteArray), b, x, y, 0))))
theorem num_i_end (s : ByteArray) (k : Nat) (x y c0 a : Int) (h : ¬ y < (s.size : Int)) : impl_token.l1 (k + 1) s x y c0 a = finI s x y c0 a := by
  simp only [impl_token.l1]; rw [if_neg h]; rfl
theorem num_i_stop (s : ByteArray) (k : Nat) (x y c0 a : Int) (h : y < (s.size : Int)) (h0 : 0 ≤ y) (hd : isD (bt s y) = false) : impl_token.l1 (k + 1) s x y c0 a = finI s x y c0 a := by
  simp only [impl_token.l1, digit_impl, Option.bind_some]; rw [if_pos h, if_pos h0, hd, if_neg Bool.false_ne_true]; rfl
theorem num_i_go (s : ByteArray) (k : Nat) (x y c0 a : Int) (h : y < (s.size : Int)) (h0 : 0 ≤ y) (hd : isD (bt s y) = true) : impl_token.l1 (k + 1) s x y c0 a = impl_token.l1 k s x (wrap64 (y + 1)) c0 (mn (wrap64 (wrap64 (10 * a) + ((bt s y) - 48) % 256)) 1099511627776) := by
  simp only [impl_token.l1, digit_impl, Option.bind_some]; rw [if_pos h, if_pos h0, if_pos hd]
theorem num_s_end (s : ByteArray) (k : Nat) (x y c0 a : Int) (h : ¬ y < (s.size : Int)) : spec_l3Token.l1 (k + 2) s x c0 y a = finS x y c0 a := by
  simp only [spec_l3Token.l1, spec_l3Token.j2]; rw [if_neg h, if_neg Bool.false_ne_true]; rfl
theorem num_s_stop (s : ByteArray) (k : Nat) (x y c0 a : Int) (h : y < (s.size : Int)) (h0 : 0 ≤ y) (hd : isD (bt s y) = false) : spec_l3Token.l1 (k + 2) s x c0 y a = finS x y c0 a := by
  simp only [spec_l3Token.l1, digit_spec, Option.bind_some, bt64]; rw [if_pos h, if_pos h0, hd]; simp only [spec_l3Token.j2]; rw [if_neg Bool.false_ne_true]; rfl
theorem num_s_go (s : ByteArray) (k : Nat) (x y c0 a : Int) (h : y < (s.size : Int)) (h0 : 0 ≤ y) (hd : isD (bt s y) = true) : spec_l3Token.l1 (k + 2) s x c0 y a = spec_l3Token.l1 k s x c0 (wrap64 (y + 1)) (if a ≤ 2147483647 then wrap64 (wrap64 (a * 10) + ((bt s y) - 48) % 256) else a) := by
  simp only [spec_l3Token.l1, digit_spec, Option.bind_some, bt64]; rw [if_pos h, if_pos h0, hd]; simp only [spec_l3Token.j2, if_true]
  rw [if_pos h, if_pos h0]
  by_cases hb : a ≤ 2147483647
  · rw [if_pos hb, if_pos hb]
  · rw [if_neg hb, if_neg hb]
theorem num_fin (s : ByteArray) (hs : s.size ≤ 1000000) (x : Nat) (c0 : Int) (y : Nat) (a b : Int) (h1 : x ≤ y) (h2 : y ≤ s.size) (hr : numR a b) : ∃ v : Int, 0 ≤ v ∧ (finI s (x : Int) (y : Int) c0 a = if v > 2147483647 ∨ c0 = 48 ∧ y > x + 1 then some (0, (⟨#[]⟩ : ByteArray), 0, 0, 13) else some (2, s.extract x y, v, (x : Int), 0)) ∧
      (finS (x : Int) (y : Int) c0 b = if v > 2147483647 ∨ c0 = 48 ∧ y > x + 1 then some (0, (⟨#[]⟩ : ByteArray), 0, 0, (x : Int), 13) else some (2, (⟨#[]⟩ : ByteArray), v, (x : Int), (y : Int), 0)) := by
  unfold finI finS
  have qx : wrap64 ((x : Int) + 1) = (x : Int) + 1 := w64 (by omega) (by omega)
  unfold numR at hr
  refine ⟨a, by rcases hr with h | h <;> omega, ?_⟩
  rw [qx, Int.toNat_natCast, Int.toNat_natCast, if_pos (show (0 : Int) ≤ (x : Int) by omega), if_pos (show (x : Int) ≤ (y : Int) by omega), if_pos (show (y : Int) ≤ (s.size : Int) by omega)]
  rcases hr with ⟨rfl, r1, r2⟩ | ⟨r1, r2, r3, r4⟩
  · rw [if_neg (show ¬ a > 2147483647 by omega), if_neg (show ¬ a > 2147483647 by omega)]
    by_cases hc : c0 = 48
    · rw [if_pos hc, if_pos hc]
      by_cases hy : y > x + 1
      · rw [if_pos (show (y : Int) > (x : Int) + 1 by omega), if_pos (Or.inr ⟨hc, hy⟩)]
        exact ⟨rfl, by rw [if_pos (show (y : Int) > (x : Int) + 1 by omega), if_pos (Or.inr ⟨hc, hy⟩)]⟩
      · have hn : ¬ (a > 2147483647 ∨ c0 = 48 ∧ y > x + 1) := by omega
        rw [if_neg (show ¬ (y : Int) > (x : Int) + 1 by omega), if_neg hn]
        exact ⟨rfl, by rw [if_neg (show ¬ (y : Int) > (x : Int) + 1 by omega), if_neg hn]⟩
    · have hn : ¬ (a > 2147483647 ∨ c0 = 48 ∧ y > x + 1) := by omega
      rw [if_neg hc, if_neg hc, if_neg hn, if_neg hn]
      exact ⟨rfl, rfl⟩
  · rw [if_pos r1, if_pos r3, if_pos (Or.inl r1), if_pos (Or.inl r1)]
    exact ⟨rfl, rfl⟩
theorem num_step (a b c : Int) (hr : numR a b) (hc : 48 ≤ c ∧ c ≤ 57) : numR (mn (wrap64 (wrap64 (10 * a) + (c - 48))) 1099511627776) (if b ≤ 2147483647 then wrap64 (wrap64 (b * 10) + (c - 48)) else b) := by
  unfold numR at hr ⊢
  rw [mn_le]
  rcases hr with ⟨rfl, r1, r2⟩ | ⟨r1, r2, r3, r4⟩
  · rw [if_pos r2, w64 (n := 10 * a) (by omega) (by omega), w64 (n := a * 10) (by omega) (by omega), w64 (n := 10 * a + (c - 48)) (by omega) (by omega), w64 (n := a * 10 + (c - 48)) (by omega) (by omega), if_neg (by omega)]
    omega
  · rw [if_neg (show ¬ b ≤ 2147483647 by omega), w64 (n := 10 * a) (by omega) (by omega), w64 (n := 10 * a + (c - 48)) (by omega) (by omega)]
    split <;> omega
theorem num_same (s : ByteArray) (hs : s.size ≤ 1000000) (x : Nat) (c0 : Int) : ∀ (d y : Nat) (a b : Int), s.size - y = d → x ≤ y → y ≤ s.size → numR a b → ∃ (e : Nat) (v : Int), y ≤ e ∧ e ≤ s.size ∧ 0 ≤ v ∧
    (∀ k, 2 * (s.size - y) + 2 ≤ k → impl_token.l1 k s (x : Int) (y : Int) c0 a = if v > 2147483647 ∨ c0 = 48 ∧ e > x + 1 then some (0, (⟨#[]⟩ : ByteArray), 0, 0, 13) else some (2, s.extract x e, v, (x : Int), 0)) ∧
    (∀ k, 2 * (s.size - y) + 2 ≤ k → spec_l3Token.l1 k s (x : Int) c0 (y : Int) b = if v > 2147483647 ∨ c0 = 48 ∧ e > x + 1 then some (0, (⟨#[]⟩ : ByteArray), 0, 0, (x : Int), 13) else some (2, (⟨#[]⟩ : ByteArray), v, (x : Int), (e : Int), 0)) := by
  intro d
  induction d with
  | zero =>
    intro y a b hd h1 h2 hr
    obtain ⟨v, v0, f1, f2⟩ := num_fin s hs x c0 y a b h1 h2 hr
    refine ⟨y, v, Nat.le_refl _, h2, v0, fun k hk => ?_, fun k hk => ?_⟩ <;> obtain ⟨k, rfl⟩ : ∃ m, k = m + 2 := ⟨k - 2, by omega⟩
    · rw [num_i_end s (k + 1) (x : Int) (y : Int) c0 a (by omega)]; exact f1
    · rw [num_s_end s k (x : Int) (y : Int) c0 b (by omega)]; exact f2
  | succ d ih =>
    intro y a b hd h1 h2 hr
    have q1 : (y : Int) < (s.size : Int) := by omega
    have q0 : (0 : Int) ≤ (y : Int) := by omega
    have qw : wrap64 ((y : Int) + 1) = ((y + 1 : Nat) : Int) := by rw [w64 (by omega) (by omega)]; omega
    by_cases hg : isD (bt s (y : Int)) = true
    · have hc := of_decide_eq_true hg
      have ed : (bt s (y : Int) - 48) % 256 = bt s (y : Int) - 48 := by omega
      have hr' := num_step a b (bt s (y : Int)) hr hc
      obtain ⟨e, v, e1, e2, v0, e3, e4⟩ := ih (y + 1) _ _ (by omega) (by omega) (by omega) hr'
      refine ⟨e, v, by omega, e2, v0, fun k hk => ?_, fun k hk => ?_⟩ <;> obtain ⟨k, rfl⟩ : ∃ m, k = m + 2 := ⟨k - 2, by omega⟩
      · rw [num_i_go s (k + 1) (x : Int) (y : Int) c0 a q1 q0 hg, qw, ed]
        exact e3 (k + 1) (by omega)
      · rw [num_s_go s k (x : Int) (y : Int) c0 b q1 q0 hg, qw, ed]
        exact e4 k (by omega)
    · have hg' : isD (bt s (y : Int)) = false := Bool.eq_false_iff.mpr hg
      obtain ⟨v, v0, f1, f2⟩ := num_fin s hs x c0 y a b h1 h2 hr
      refine ⟨y, v, Nat.le_refl _, h2, v0, fun k hk => ?_, fun k hk => ?_⟩ <;> obtain ⟨k, rfl⟩ : ∃ m, k = m + 2 := ⟨k - 2, by omega⟩
      · rw [num_i_stop s (k + 1) (x : Int) (y : Int) c0 a q1 q0 hg']; exact f1
      · rw [num_s_stop s k (x : Int) (y : Int) c0 b q1 q0 hg']; exact f2

def signs : ByteArray := ⟨#[123, 125, 61, 59, 44, 46, 45]⟩
def isS (c : Int) : Bool := decide (c = 123 ∨ c = 125 ∨ c = 61 ∨ c = 59 ∨ c = 44 ∨ c = 46 ∨ c = 45)
theorem sign_bt : bt signs 0 = 123 ∧ bt signs 1 = 125 ∧ bt signs 2 = 61 ∧ bt signs 3 = 59 ∧ bt signs 4 = 44 ∧ bt signs 5 = 46 ∧ bt signs 6 = 45 := by
  refine ⟨rfl, rfl, rfl, rfl, rfl, rfl, rfl⟩
theorem sign_first (c : Int) (h0 : 0 ≤ c) (h1 : c < 256) : (Go.firstIdx signs c.toNat.toUInt8 ≥ 0) ↔ isS c = true := by
  obtain ⟨b0, b1, b2, b3, b4, b5, b6⟩ := sign_bt
  unfold isS
  rw [decide_eq_true_iff]
  have hz : signs.size = 7 := rfl
  rcases first_bt signs c h0 h1 with ⟨e, f⟩ | ⟨i, e, hi, f, _⟩
  · rw [e]
    have f0 : bt signs 0 ≠ c := f 0 (by omega); have f1 : bt signs 1 ≠ c := f 1 (by omega); have f2 : bt signs 2 ≠ c := f 2 (by omega); have f3 : bt signs 3 ≠ c := f 3 (by omega); have f4 : bt signs 4 ≠ c := f 4 (by omega); have f5 : bt signs 5 ≠ c := f 5 (by omega); have f6 : bt signs 6 ≠ c := f 6 (by omega)
    constructor
    · intro h; omega
    · intro h
      exfalso
      rcases h with h | h | h | h | h | h | h
      · exact f0 (b0.trans h.symm)
      · exact f1 (b1.trans h.symm)
      · exact f2 (b2.trans h.symm)
      · exact f3 (b3.trans h.symm)
      · exact f4 (b4.trans h.symm)
      · exact f5 (b5.trans h.symm)
      · exact f6 (b6.trans h.symm)
  · rw [e, ← f]
    refine ⟨fun _ => ?_, fun _ => by omega⟩
    match i, hi with
    | 0, _ => exact .inl b0
    | 1, _ => exact .inr (.inl b1)
    | 2, _ => exact .inr (.inr (.inl b2))
    | 3, _ => exact .inr (.inr (.inr (.inl b3)))
    | 4, _ => exact .inr (.inr (.inr (.inr (.inl b4))))
    | 5, _ => exact .inr (.inr (.inr (.inr (.inr (.inl b5)))))
    | 6, _ => exact .inr (.inr (.inr (.inr (.inr (.inr b6)))))
    | n + 7, h => omega
theorem tok_i_L (s : ByteArray) (k x : Nat) (hx : x < s.size) (hs : s.size ≤ 1000000) (h : isL (bt s (x : Int)) = true) : impl_token.f k s (x : Int) = impl_token.l0 k s (x : Int) ((x + 1 : Nat) : Int) := by
  unfold impl_token.f
  rw [letter_impl, if_pos (show (0 : Int) ≤ (x : Int) by omega), if_pos (show (x : Int) < (s.size : Int) by omega), Option.bind_some, if_pos h, w64 (by omega) (by omega)]
  rfl
theorem tok_i_D (s : ByteArray) (k x : Nat) (hx : x < s.size) (hs : s.size ≤ 1000000) (h : isL (bt s (x : Int)) = false) (hd : isD (bt s (x : Int)) = true) : impl_token.f k s (x : Int) = impl_token.l1 k s (x : Int) ((x + 1 : Nat) : Int) (bt s (x : Int)) (bt s (x : Int) - 48) := by
  have hc := of_decide_eq_true hd
  unfold impl_token.f
  rw [letter_impl, digit_impl, if_pos (show (0 : Int) ≤ (x : Int) by omega), if_pos (show (x : Int) < (s.size : Int) by omega), Option.bind_some, Option.bind_some, h, if_neg Bool.false_ne_true, if_pos hd, w64 (by omega) (by omega), show (bt s (x : Int) - 48) % 256 = bt s (x : Int) - 48 by omega]
  rfl
theorem tok_i_S (s : ByteArray) (k x : Nat) (hx : x < s.size) (hs : s.size ≤ 1000000) (h : isL (bt s (x : Int)) = false) (hd : isD (bt s (x : Int)) = false) : impl_token.f k s (x : Int) = if isS (bt s (x : Int)) = true then some (3, s.extract x (x + 1), 0, (x : Int), 0) else some (0, (⟨#[]⟩ : ByteArray), 0, 0, 11) := by
  have hr := bt_range s (x : Int)
  have hg := sign_first (bt s (x : Int)) (by omega) (by omega)
  unfold impl_token.f
  simp only [strings_IndexByte.f, stringslite_IndexByte.f]
  rw [letter_impl, digit_impl, if_pos (show (0 : Int) ≤ (x : Int) by omega), if_pos (show (x : Int) < (s.size : Int) by omega), Option.bind_some, Option.bind_some, h, if_neg Bool.false_ne_true, hd, if_neg Bool.false_ne_true, Option.bind_some, Option.bind_some, w64 (by omega) (by omega), if_pos (show (x : Int) ≤ (x : Int) + 1 by omega), if_pos (show (x : Int) + 1 ≤ (s.size : Int) by omega), Int.toNat_natCast, show ((x : Int) + 1).toNat = x + 1 by omega]
  change (if Go.firstIdx signs (bt s (x : Int)).toNat.toUInt8 ≥ 0 then _ else _) = _
  by_cases hq : isS (bt s (x : Int)) = true
  · rw [if_pos hq, if_pos (hg.mpr hq)]
  · rw [if_neg hq, if_neg (fun e => hq (hg.mp e))]
theorem tok_s_L (s : ByteArray) (k x : Nat) (hx : x < s.size) (hs : s.size ≤ 1000000) (h : isL (bt s (x : Int)) = true) : spec_l3Token.f k s (x : Int) = spec_l3Token.l0 k s (x : Int) (x : Int) := by
  unfold spec_l3Token.f
  rw [bt64, letter_spec, if_pos (show (0 : Int) ≤ (x : Int) by omega), if_pos (show (x : Int) < (s.size : Int) by omega), Option.bind_some, if_pos h]
theorem tok_s_D (s : ByteArray) (k x : Nat) (hx : x < s.size) (hs : s.size ≤ 1000000) (h : isL (bt s (x : Int)) = false) (hd : isD (bt s (x : Int)) = true) : spec_l3Token.f k s (x : Int) = spec_l3Token.l1 k s (x : Int) (bt s (x : Int)) (x : Int) 0 := by
  unfold spec_l3Token.f
  rw [bt64, letter_spec, digit_spec, if_pos (show (0 : Int) ≤ (x : Int) by omega), if_pos (show (x : Int) < (s.size : Int) by omega), Option.bind_some, Option.bind_some, h, if_neg Bool.false_ne_true, if_pos hd]
theorem tok_s_S (s : ByteArray) (k x : Nat) (hx : x < s.size) (hs : s.size ≤ 1000000) (h : isL (bt s (x : Int)) = false) (hd : isD (bt s (x : Int)) = false) : spec_l3Token.f k s (x : Int) = if isS (bt s (x : Int)) = true then some (3, s.extract x (x + 1), 0, (x : Int), ((x + 1 : Nat) : Int), 0) else some (0, (⟨#[]⟩ : ByteArray), 0, 0, (x : Int), 11) := by
  unfold spec_l3Token.f isS
  rw [bt64, letter_spec, digit_spec, if_pos (show (0 : Int) ≤ (x : Int) by omega), if_pos (show (x : Int) < (s.size : Int) by omega), Option.bind_some, Option.bind_some, h, if_neg Bool.false_ne_true, hd, if_neg Bool.false_ne_true, w64 (by omega) (by omega), if_pos (show (x : Int) ≤ (x : Int) + 1 by omega), if_pos (show (x : Int) + 1 ≤ (s.size : Int) by omega), Int.toNat_natCast, show ((x : Int) + 1).toNat = x + 1 by omega, show (x : Int) + 1 = ((x + 1 : Nat) : Int) by omega]
  generalize bt s (x : Int) = c
  by_cases c1 : c = 123
  · rw [if_pos c1, if_pos (decide_eq_true (by omega))]
  rw [if_neg c1]
  by_cases c2 : c = 125
  · rw [if_pos c2, if_pos (decide_eq_true (by omega))]
  rw [if_neg c2]
  by_cases c3 : c = 61
  · rw [if_pos c3, if_pos (decide_eq_true (by omega))]
  rw [if_neg c3]
  by_cases c4 : c = 59
  · rw [if_pos c4, if_pos (decide_eq_true (by omega))]
  rw [if_neg c4]
  by_cases c5 : c = 44
  · rw [if_pos c5, if_pos (decide_eq_true (by omega))]
  rw [if_neg c5]
  by_cases c6 : c = 46
  · rw [if_pos c6, if_pos (decide_eq_true (by omega))]
  rw [if_neg c6]
  by_cases c7 : c = 45
  · rw [if_pos c7, if_pos (decide_eq_true (by omega))]
  rw [if_neg c7, if_neg (fun e => by have := of_decide_eq_true e; omega)]
/-- One token, in both. -/
theorem token_same (s : ByteArray) (hs : s.size ≤ 1000000) (x : Nat) (hx : x < s.size) :
    (∃ (c : Int) (u : Int × ByteArray × Int × Int) (v : Int × ByteArray × Int × Int × Int), c ≠ 0 ∧ ∀ k, 2 * s.size + 8 ≤ k → impl_token.f k s (x : Int) = some (u.1, u.2.1, u.2.2.1, u.2.2.2, c) ∧ spec_l3Token.f k s (x : Int) = some (v.1, v.2.1, v.2.2.1, v.2.2.2.1, v.2.2.2.2, c)) ∨
    (∃ (kd n : Int) (it : ByteArray) (e : Nat), x < e ∧ e ≤ s.size ∧ it.size = e - x ∧ 0 ≤ n ∧ n ≤ 2147483647 ∧ ∀ k, 2 * s.size + 8 ≤ k → impl_token.f k s (x : Int) = some (kd, it, n, (x : Int), 0) ∧ spec_l3Token.f k s (x : Int) = some (kd, if kd = 2 then (⟨#[]⟩ : ByteArray) else it, n, (x : Int), (e : Int), 0)) := by
  rcases Bool.eq_false_or_eq_true (isL (bt s (x : Int))) with hl | hl
  · obtain ⟨e, e1, e2, e3, e4⟩ := word_same s hs x (s.size - (x + 1)) (x + 1) rfl (by omega) (by omega)
    have es : ∀ k, 2 * s.size + 8 ≤ k → spec_l3Token.f k s (x : Int) = if e - x > 20 then some (0, (⟨#[]⟩ : ByteArray), 0, 0, (x : Int), 12) else some (1, s.extract x e, 0, (x : Int), (e : Int), 0) := by
      intro k hk
      obtain ⟨k, rfl⟩ : ∃ m, k = m + 1 := ⟨k - 1, by omega⟩
      rw [tok_s_L s (k + 1) x hx hs hl]
      simp only [spec_l3Token.l0, letter_spec, Option.bind_some, bt64]
      rw [if_pos (show (x : Int) < (s.size : Int) by omega), if_pos (show (0 : Int) ≤ (x : Int) by omega), if_pos hl, w64 (by omega) (by omega), show (x : Int) + 1 = ((x + 1 : Nat) : Int) by omega]
      exact e4 k (by omega)
    have ei : ∀ k, 2 * s.size + 8 ≤ k → impl_token.f k s (x : Int) = if e - x > 20 then some (0, (⟨#[]⟩ : ByteArray), 0, 0, 12) else some (1, s.extract x e, 0, (x : Int), 0) := fun k hk => by
      rw [tok_i_L s k x hx hs hl]; exact e3 k (by omega)
    by_cases hg : e - x > 20
    · refine .inl ⟨12, (0, ⟨#[]⟩, 0, 0), (0, ⟨#[]⟩, 0, 0, (x : Int)), by omega, fun k hk => ⟨?_, ?_⟩⟩
      · rw [ei k hk, if_pos hg]
      · rw [es k hk, if_pos hg]
    · refine .inr ⟨1, 0, s.extract x e, e, by omega, e2, by rw [ByteArray.size_extract]; omega, by omega, by omega, fun k hk => ⟨?_, ?_⟩⟩
      · rw [ei k hk, if_neg hg]
      · rw [es k hk, if_neg hg, if_neg (by omega)]
  · rcases Bool.eq_false_or_eq_true (isD (bt s (x : Int))) with hd | hd
    · have hc := of_decide_eq_true hd
      obtain ⟨e, v, e1, e2, v0, e3, e4⟩ := num_same s hs x (bt s (x : Int)) (s.size - (x + 1)) (x + 1) (bt s (x : Int) - 48) (bt s (x : Int) - 48) rfl (by omega) (by omega) (.inl ⟨rfl, by omega, by omega⟩)
      have es : ∀ k, 2 * s.size + 8 ≤ k → spec_l3Token.f k s (x : Int) = if v > 2147483647 ∨ bt s (x : Int) = 48 ∧ e > x + 1 then some (0, (⟨#[]⟩ : ByteArray), 0, 0, (x : Int), 13) else some (2, (⟨#[]⟩ : ByteArray), v, (x : Int), (e : Int), 0) := by
        intro k hk
        obtain ⟨k, rfl⟩ : ∃ m, k = m + 2 := ⟨k - 2, by omega⟩
        rw [tok_s_D s (k + 2) x hx hs hl hd, num_s_go s k (x : Int) (x : Int) (bt s (x : Int)) 0 (by omega) (by omega) hd, if_pos (by omega), w64 (n := (x : Int) + 1) (by omega) (by omega), w64 (n := 0 * 10) (by omega) (by omega), show (0 * 10 + (bt s (x : Int) - 48) % 256 : Int) = bt s (x : Int) - 48 by omega, w64 (by omega) (by omega), show (x : Int) + 1 = ((x + 1 : Nat) : Int) by omega]
        exact e4 k (by omega)
      have ei : ∀ k, 2 * s.size + 8 ≤ k → impl_token.f k s (x : Int) = if v > 2147483647 ∨ bt s (x : Int) = 48 ∧ e > x + 1 then some (0, (⟨#[]⟩ : ByteArray), 0, 0, 13) else some (2, s.extract x e, v, (x : Int), 0) := fun k hk => by
        rw [tok_i_D s k x hx hs hl hd]; exact e3 k (by omega)
      by_cases hg : v > 2147483647 ∨ bt s (x : Int) = 48 ∧ e > x + 1
      · refine .inl ⟨13, (0, ⟨#[]⟩, 0, 0), (0, ⟨#[]⟩, 0, 0, (x : Int)), by omega, fun k hk => ⟨?_, ?_⟩⟩
        · rw [ei k hk, if_pos hg]
        · rw [es k hk, if_pos hg]
      · refine .inr ⟨2, v, s.extract x e, e, by omega, e2, by rw [ByteArray.size_extract]; omega, by omega, by omega, fun k hk => ⟨?_, ?_⟩⟩
        · rw [ei k hk, if_neg hg]
        · rw [es k hk, if_neg hg, if_pos rfl]
    · by_cases hq : isS (bt s (x : Int)) = true
      · refine .inr ⟨3, 0, s.extract x (x + 1), x + 1, by omega, by omega, by rw [ByteArray.size_extract]; omega, by omega, by omega, fun k hk => ⟨?_, ?_⟩⟩
        · rw [tok_i_S s k x hx hs hl hd, if_pos hq]
        · rw [tok_s_S s k x hx hs hl hd, if_pos hq, if_neg (by omega)]
      · refine .inl ⟨11, (0, ⟨#[]⟩, 0, 0), (0, ⟨#[]⟩, 0, 0, (x : Int)), by omega, fun k hk => ⟨?_, ?_⟩⟩
        · rw [tok_i_S s k x hx hs hl hd, if_neg hq]
        · rw [tok_s_S s k x hx hs hl hd, if_neg hq]

/-- The loops of the two lexers tell the same. -/
theorem lex_loop (s : ByteArray) (hs : s.size ≤ 6000) : ∀ (d x : Nat) (acc : List S31), s.size - x ≤ d → x ≤ s.size → acc.length ≤ 1500 → ∃ r : List S31 × Int × Int, r.1.length ≤ 1501 ∧ (r.2.1 = 0 ∨ r.1 = []) ∧ (∀ k, 4 * s.size + 2 * (s.size - x) + 20 ≤ k → impl_Lex.l0 k s acc (x : Int) = some r) ∧ (∀ k, 4 * s.size + 2 * (s.size - x) + 20 ≤ k → spec_Lex.l0 k s acc (x : Int) = some r) := by
  intro d
  induction d with
  | zero =>
    intro x acc hd hx hl
    refine ⟨(acc ++ [(⟨4, (⟨#[]⟩ : ByteArray), 0, (s.size : Int)⟩ : S31)], 0, 0), by simp; omega, .inl rfl, fun k hk => ?_, fun k hk => ?_⟩ <;> obtain ⟨k, rfl⟩ : ∃ m, k = m + 1 := ⟨k - 1, by omega⟩
    · simp only [impl_Lex.l0]; rw [if_neg (by omega), if_pos (by omega)]
    · simp only [spec_Lex.l0]; rw [if_neg (by omega), if_pos (by omega)]
  | succ d ih =>
    intro x acc hd hx hl
    by_cases hlt : x < s.size
    · have q1 : (x : Int) < (s.size : Int) := by omega
      rcases token_same s (by omega) x hlt with ⟨c, u, v, hc, ht⟩ | ⟨kd, n, it, e, e1, e2, e3, n0, n1, ht⟩
      · refine ⟨([], c, (x : Int)), by simp, .inr rfl, fun k hk => ?_, fun k hk => ?_⟩
        · obtain ⟨k, rfl⟩ : ∃ m, k = m + 1 := ⟨k - 1, by omega⟩
          simp only [impl_Lex.l0]
          rw [if_pos q1, (ht k (by omega)).1, Option.bind_some, if_neg hc]
        · obtain ⟨k, rfl⟩ : ∃ m, k = m + 2 := ⟨k - 2, by omega⟩
          simp only [spec_Lex.l0]
          rw [if_pos q1, (ht (k + 1) (by omega)).2, Option.bind_some, if_neg hc]
          simp only [spec_Lex.j1, Bool.false_eq_true, if_false]
          rw [if_neg hc]
      · by_cases hf : (acc.length : Int) = 1500
        · refine ⟨([], 14, (x : Int)), by simp, .inr rfl, fun k hk => ?_, fun k hk => ?_⟩
          · obtain ⟨k, rfl⟩ : ∃ m, k = m + 1 := ⟨k - 1, by omega⟩
            simp only [impl_Lex.l0]
            rw [if_pos q1, (ht k (by omega)).1, Option.bind_some, if_pos rfl, if_pos hf]
          · obtain ⟨k, rfl⟩ : ∃ m, k = m + 2 := ⟨k - 2, by omega⟩
            simp only [spec_Lex.l0]
            rw [if_pos q1, (ht (k + 1) (by omega)).2, Option.bind_some, if_pos rfl, show ((acc.length : Int) == 1500) = true from beq_iff_eq.mpr hf]
            simp only [spec_Lex.j1, if_true]
            rw [if_neg (by omega)]
        · obtain ⟨p, p1, p2, p3, p4⟩ := skip_same s (by omega) (s.size - e) e (Nat.le_refl _) e2
          obtain ⟨r, r1, r2, r3, r4⟩ := ih p (acc ++ [(⟨kd, if kd = 2 then (⟨#[]⟩ : ByteArray) else it, n, (x : Int)⟩ : S31)]) (by omega) p2 (by simp; omega)
          refine ⟨r, r1, r2, fun k hk => ?_, fun k hk => ?_⟩
          · obtain ⟨k, rfl⟩ : ∃ m, k = m + 1 := ⟨k - 1, by omega⟩
            simp only [impl_Lex.l0]
            rw [if_pos q1, (ht k (by omega)).1, Option.bind_some, if_pos rfl, if_neg hf, e3, w64 (by omega) (by omega), show (x : Int) + ((e - x : Nat) : Int) = (e : Int) by omega]
            simp only [impl_passOver.f]
            rw [p3 k (by omega), Option.bind_some]
            have := r3 k (by omega)
            by_cases hk2 : kd = 2
            · rw [if_pos hk2] at this ⊢; rw [if_pos (by omega)]; exact this
            · rw [if_neg hk2] at this ⊢; rw [if_pos (by omega)]; exact this
          · obtain ⟨k, rfl⟩ : ∃ m, k = m + 2 := ⟨k - 2, by omega⟩
            simp only [spec_Lex.l0]
            rw [if_pos q1, (ht (k + 1) (by omega)).2, Option.bind_some, if_pos rfl, show ((acc.length : Int) == 1500) = false from beq_eq_false_iff_ne.mpr hf]
            simp only [spec_Lex.j1, spec_l3Skip.f, Bool.false_eq_true, if_false, if_true]
            rw [if_pos (by omega), p4 k (by omega), Option.bind_some]
            exact r4 k (by omega)
    · refine ⟨(acc ++ [(⟨4, (⟨#[]⟩ : ByteArray), 0, (s.size : Int)⟩ : S31)], 0, 0), by simp; omega, .inl rfl, fun k hk => ?_, fun k hk => ?_⟩ <;> obtain ⟨k, rfl⟩ : ∃ m, k = m + 1 := ⟨k - 1, by omega⟩
      · simp only [impl_Lex.l0]; rw [if_neg (by omega), if_pos (by omega)]
      · simp only [spec_Lex.l0]; rw [if_neg (by omega), if_pos (by omega)]
/-- The two lexers tell the same. -/
theorem lex_same (s : ByteArray) : ∃ r : List S31 × Int × Int, r.1.length ≤ 1501 ∧ (r.2.1 = 0 ∨ r.1 = []) ∧ (∀ k, 6 * s.size + 30 ≤ k → impl_Lex.f k s = some r) ∧ (∀ k, 6 * s.size + 30 ≤ k → spec_Lex.f k s = some r) := by
  by_cases hs : (s.size : Int) > 6000
  · refine ⟨([], 14, 0), by simp, .inr rfl, fun k _ => ?_, fun k _ => ?_⟩
    · unfold impl_Lex.f; rw [if_pos hs]
    · unfold spec_Lex.f; rw [if_pos hs]
  · obtain ⟨p, p1, p2, p3, p4⟩ := skip_same s (by omega) s.size 0 (by omega) (by omega)
    obtain ⟨r, r1, r2, r3, r4⟩ := lex_loop s (by omega) s.size p [] (by omega) p2 (by simp)
    refine ⟨r, r1, r2, fun k hk => ?_, fun k hk => ?_⟩
    · unfold impl_Lex.f; rw [if_neg hs]
      simp only [impl_passOver.f]
      have := p3 k (by omega)
      rw [show ((0 : Nat) : Int) = 0 from rfl] at this
      rw [this, Option.bind_some]
      exact r3 k (by omega)
    · unfold spec_Lex.f; rw [if_neg hs]
      simp only [spec_l3Skip.f]
      have := p4 k (by omega)
      rw [show ((0 : Nat) : Int) = 0 from rfl] at this
      rw [this, Option.bind_some]
      exact r4 k (by omega)

theorem size_strNums (xs : List Int) : (strOfNums xs).size = xs.length := by
  simp [strOfNums, ByteArray.size]
/-- The mark of a text is told, however many rounds there are beyond the number. -/
theorem mark_text_run : ∀ (d : Nat) (x : Int) (acc : ByteArray), x.toNat ≤ d → 0 ≤ x → x ≤ 1000000 → acc.size + x.toNat ≤ 2000000 → ∃ t, ∀ k, d + 1 ≤ k → laws_markText.l0 k x acc = some t := by
  intro d
  induction d with
  | zero =>
    intro x acc hd h0 h1 ha
    refine ⟨(⟨#[109]⟩ : ByteArray) ++ acc, fun k hk => ?_⟩
    obtain ⟨k, rfl⟩ : ∃ m, k = m + 1 := ⟨k - 1, by omega⟩
    simp only [laws_markText.l0]
    rw [if_neg (by omega), if_pos (by omega)]
  | succ d ih =>
    intro x acc hd h0 h1 ha
    by_cases hx : x > 0
    · have hq : Int.tdiv x 10 = x / 10 := Int.tdiv_eq_ediv_of_nonneg h0
      obtain ⟨t, ht⟩ := ih (x / 10) (strOfNums [(wrap64 (48 + Int.tmod x 10)) % 256] ++ acc) (by omega) (by omega) (by omega) (by rw [ByteArray.size_append, size_strNums, List.length_singleton]; omega)
      refine ⟨t, fun k hk => ?_⟩
      obtain ⟨k, rfl⟩ : ∃ m, k = m + 1 := ⟨k - 1, by omega⟩
      simp only [laws_markText.l0]
      rw [if_pos hx, Option.bind_some, size_strNums, List.length_singleton, if_pos (by omega), hq, w64 (n := x / 10) (by omega) (by omega)]
      exact ht k (by omega)
    · refine ⟨(⟨#[109]⟩ : ByteArray) ++ acc, fun k hk => ?_⟩
      obtain ⟨k, rfl⟩ : ∃ m, k = m + 1 := ⟨k - 1, by omega⟩
      simp only [laws_markText.l0]
      rw [if_neg (by omega), if_pos (by omega)]
/-- The text that marks a number. -/
noncomputable def mkT (v : Int) : ByteArray := (laws_markText.f (v.toNat + 1) v).getD (⟨#[]⟩ : ByteArray)
theorem mark_text (v : Int) (h1 : 1 ≤ v) (h2 : v ≤ 1000000) (k : Nat) (hk : v.toNat + 1 ≤ k) : laws_markText.f k v = some (mkT v) := by
  obtain ⟨t, ht⟩ := mark_text_run v.toNat v (⟨#[]⟩ : ByteArray) (Nat.le_refl _) (by omega) h2 (by show 0 + v.toNat ≤ 2000000; omega)
  have e : ∀ k, v.toNat + 1 ≤ k → laws_markText.f k v = some t := fun k hk => by
    unfold laws_markText.f; rw [if_neg (by omega)]; exact ht k hk
  rw [e k hk]
  unfold mkT
  rw [e _ (Nat.le_refl _)]; rfl
theorem rd31_set (xs : List S31) (i : Nat) (h : i < xs.length) (v : S31) : rd_T31 (xs.set i v) (i : Int) = v := by
  unfold rd_T31
  rw [Int.toNat_natCast, List.getD_eq_getElem?_getD, List.getElem?_set_self h]; rfl
theorem rd31_of (xs : List S31) (i : Nat) (v : S31) (h : xs[i]? = some v) : rd_T31 xs (i : Int) = v := by
  unfold rd_T31
  rw [Int.toNat_natCast, List.getD_eq_getElem?_getD, h]; rfl
noncomputable def tok31 (j : Nat) : S31 := ⟨4 * (j : Int) + 1, mkT (4 * (j : Int) + 2), 4 * (j : Int) + 3, 4 * (j : Int) + 4⟩
theorem mark_run : ∀ (d i : Nat) (xs : List S31), xs.length - i = d → i ≤ xs.length → xs.length ≤ 2000 → (∀ j, j < i → xs[j]? = some (tok31 j)) → ∃ ys : List S31, ys.length = xs.length ∧ (∀ j, j < ys.length → ys[j]? = some (tok31 j)) ∧ ∀ k, 10000 + d ≤ k → laws_markTokenS.l0 k xs (4 * (i : Int) + 1) (i : Int) = some (4 * (xs.length : Int) + 1, ys) := by
  intro d
  induction d with
  | zero =>
    intro i xs hd hi hl hx
    refine ⟨xs, rfl, fun j hj => hx j (by omega), fun k hk => ?_⟩
    obtain ⟨k, rfl⟩ : ∃ m, k = m + 1 := ⟨k - 1, by omega⟩
    simp only [laws_markTokenS.l0]
    rw [if_neg (by omega), show i = xs.length by omega]
  | succ d ih =>
    intro i xs hd hi hl hx
    have hlt : i < xs.length := by omega
    obtain ⟨ys, y1, y2, y3⟩ := ih (i + 1) (xs.set i (tok31 i)) (by rw [List.length_set]; omega) (by rw [List.length_set]; omega) (by rw [List.length_set]; omega) (by
      intro j hj
      by_cases e : j = i
      · subst e; rw [List.getElem?_set_self hlt]
      · rw [List.getElem?_set_ne (by omega)]; exact hx j (by omega))
    rw [List.length_set] at y1 y3
    refine ⟨ys, y1, y2, fun k hk => ?_⟩
    obtain ⟨k, rfl⟩ : ∃ m, k = m + 1 := ⟨k - 1, by omega⟩
    simp only [laws_markTokenS.l0]
    rw [if_pos (show (i : Int) < (xs.length : Int) by omega), if_pos (show (0 : Int) ≤ (i : Int) by omega), w64 (n := 4 * (i : Int) + 1 + 1) (by omega) (by omega), show 4 * (i : Int) + 1 + 1 = 4 * (i : Int) + 2 by omega, mark_text (4 * (i : Int) + 2) (by omega) (by omega) k (by omega), w64 (n := 4 * (i : Int) + 2 + 1) (by omega) (by omega), show 4 * (i : Int) + 2 + 1 = 4 * (i : Int) + 3 by omega, w64 (n := 4 * (i : Int) + 3 + 1) (by omega) (by omega), show 4 * (i : Int) + 3 + 1 = 4 * (i : Int) + 4 by omega, w64 (n := 4 * (i : Int) + 4 + 1) (by omega) (by omega), w64 (n := (i : Int) + 1) (by omega) (by omega), show (i : Int) + 1 = ((i + 1 : Nat) : Int) by omega, show 4 * (i : Int) + 4 + 1 = 4 * ((i + 1 : Nat) : Int) + 1 by omega]
    simp only [Option.bind_some, Int.toNat_natCast]
    have := y3 k (by omega)
    unfold tok31 at this
    simp only [rd31_set _ i hlt, List.set_set]
    exact this
theorem mark_same (xs : List S31) (hl : xs.length ≤ 2000) : ∃ ys : List S31, ys.length = xs.length ∧ (∀ j, j < ys.length → ys[j]? = some (tok31 j)) ∧ ∀ k, 12000 ≤ k → laws_markTokenS.f k xs 1 = some (4 * (xs.length : Int) + 1, ys) := by
  obtain ⟨ys, y1, y2, y3⟩ := mark_run xs.length 0 xs (by omega) (by omega) hl (fun j hj => by omega)
  exact ⟨ys, y1, y2, fun k hk => y3 k (by omega)⟩
theorem held_run : ∀ (d i : Nat) (xs : List S31), xs.length - i = d → i ≤ xs.length → xs.length ≤ 2000 → (∀ j, j < xs.length → xs[j]? = some (tok31 j)) → ∀ k, 10000 + d ≤ k → laws_heldTokenS.l0 k xs (4 * (i : Int) + 1) (i : Int) = some (4 * (xs.length : Int) + 1) := by
  intro d
  induction d with
  | zero =>
    intro i xs hd hi hl hx k hk
    obtain ⟨k, rfl⟩ : ∃ m, k = m + 1 := ⟨k - 1, by omega⟩
    simp only [laws_heldTokenS.l0]
    rw [if_neg (by omega), show i = xs.length by omega]
  | succ d ih =>
    intro i xs hd hi hl hx k hk
    obtain ⟨k, rfl⟩ : ∃ m, k = m + 1 := ⟨k - 1, by omega⟩
    have := ih (i + 1) xs (by omega) (by omega) hl hx k (by omega)
    simp only [laws_heldTokenS.l0]
    rw [if_pos (show (i : Int) < (xs.length : Int) by omega), if_pos (show (0 : Int) ≤ (i : Int) by omega), rd31_of xs i _ (hx i (by omega)), w64 (n := 4 * (i : Int) + 1 + 1) (by omega) (by omega), show 4 * (i : Int) + 1 + 1 = 4 * (i : Int) + 2 by omega, mark_text (4 * (i : Int) + 2) (by omega) (by omega) k (by omega), w64 (n := 4 * (i : Int) + 2 + 1) (by omega) (by omega), show 4 * (i : Int) + 2 + 1 = 4 * (i : Int) + 3 by omega, w64 (n := 4 * (i : Int) + 3 + 1) (by omega) (by omega), show 4 * (i : Int) + 3 + 1 = 4 * (i : Int) + 4 by omega, w64 (n := 4 * (i : Int) + 4 + 1) (by omega) (by omega), w64 (n := (i : Int) + 1) (by omega) (by omega), show (i : Int) + 1 = ((i + 1 : Nat) : Int) by omega, show 4 * (i : Int) + 4 + 1 = 4 * ((i + 1 : Nat) : Int) + 1 by omega]
    unfold tok31
    rw [if_pos rfl, Option.bind_some, if_pos rfl, if_pos rfl, if_pos rfl]
    exact this
theorem eqtok_run (xs : List S31) (hl : xs.length ≤ 2000000) : ∀ (d i : Nat), xs.length - i = d → i ≤ xs.length → ∀ k, d + 1 ≤ k → laws_eqTokenS.l0 k xs xs (i : Int) = some true := by
  intro d
  induction d with
  | zero =>
    intro i hd hi k hk
    obtain ⟨k, rfl⟩ : ∃ m, k = m + 1 := ⟨k - 1, by omega⟩
    simp only [laws_eqTokenS.l0]
    rw [if_neg (by omega)]
  | succ d ih =>
    intro i hd hi k hk
    obtain ⟨k, rfl⟩ : ∃ m, k = m + 1 := ⟨k - 1, by omega⟩
    simp only [laws_eqTokenS.l0, laws_eqToken.f, if_true, Option.bind_some]
    rw [if_pos (show (i : Int) < (xs.length : Int) by omega), if_pos (show (0 : Int) ≤ (i : Int) by omega), if_pos (show (i : Int) < (xs.length : Int) by omega), w64 (by omega) (by omega), show (i : Int) + 1 = ((i + 1 : Nat) : Int) by omega]
    exact ih (i + 1) (by omega) (by omega) k (by omega)
theorem eqtok_same (xs : List S31) (hl : xs.length ≤ 2000000) (k : Nat) (hk : xs.length + 1 ≤ k) : laws_eqTokenS.f k xs xs = some true := by
  unfold laws_eqTokenS.f
  rw [if_pos rfl]
  exact eqtok_run xs hl xs.length 0 (by omega) (by omega) k hk
theorem eqfault_same (a b : Int) : laws_eqFault.f a b a b = some true := by
  unfold laws_eqFault.f; rw [if_pos rfl, if_pos rfl]

theorem FnExactLex : laws_FnExactLex.Pure := by
  intro a0 _
  by_cases hs : (a0.size : Int) > 1048576
  · exact ⟨0, by unfold laws_FnExactLex.f; rw [if_pos hs]⟩
  obtain ⟨⟨l, f1, f2⟩, r1, r2, r3, r4⟩ := lex_same a0
  have r1 : l.length ≤ 1501 := r1
  obtain ⟨ys, y1, y2, y3⟩ := mark_same l (by omega)
  refine ⟨8000000, ?_⟩
  unfold laws_FnExactLex.f
  rw [if_neg hs, r4 _ (by omega), Option.bind_some, r3 _ (by omega), Option.bind_some]
  simp only []
  rw [eqtok_same l (by omega) _ (by omega), Option.bind_some, if_pos rfl, eqfault_same, Option.bind_some]
  have e0 : ∀ k, 7500000 ≤ k → laws_FnExactLex.j1 k ys (4 * (l.length : Int) + 1) false = some true := by
    intro k hk
    obtain ⟨k, rfl⟩ : ∃ m, k = m + 1 := ⟨k - 1, by omega⟩
    have hh : laws_heldTokenS.f k ys 1 = some (4 * (ys.length : Int) + 1) := held_run ys.length 0 ys (by omega) (by omega) (by omega) y2 k (by omega)
    simp only [laws_FnExactLex.j1]
    rw [if_neg Bool.false_ne_true, hh, Option.bind_some, if_neg (by omega), if_pos (by rw [y1])]
  have e1 : ∀ k, 7600000 ≤ k → laws_FnExactLex.j0 k a0 l l (!true) f1 f2 = some true := by
    intro k hk
    obtain ⟨k, rfl⟩ : ∃ m, k = m + 1 := ⟨k - 1, by omega⟩
    have hh : laws_heldTokenS.f k ys 1 = some (4 * (ys.length : Int) + 1) := held_run ys.length 0 ys (by omega) (by omega) (by omega) y2 k (by omega)
    simp only [laws_FnExactLex.j0]
    rw [if_neg (by decide), y3 k (by omega), Option.bind_some]
    simp only []
    rw [hh, Option.bind_some, if_neg (by omega), if_pos (by rw [y1]), r3 k (by omega), Option.bind_some]
    simp only []
    rw [eqtok_same l (by omega) k (by omega), Option.bind_some, if_pos rfl, eqfault_same, Option.bind_some]
    exact e0 k (by omega)
  exact e1 _ (by omega)

end Go.Proofs.Ytnchbgiojdijbaa.Pure
