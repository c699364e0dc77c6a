/- FnWords: a drawn text's tokens, each written with a blank behind it, are lexed as the same tokens (or the written text is too long). No condition. -/
import Derived.Test.YtnchbgiojdijbaaPFnWordsx9
import Derived.Test.YtnchbgiojdijbaaLib
set_option linter.unusedSimpArgs false
set_option linter.unusedVariables false
namespace Go.Proofs.Ytnchbgiojdijbaa.Pure
open Go Go.RowKit Go.Proofs.Ytnchbgiojdijbaa.PFnWords Go.Proofs.YtnchbgiojdijbaaW.PrintWords Go.Proofs.YtnchbgiojdijbaaW.PrintLast Go.Proofs.YtnchbgiojdijbaaW.PrintMore Go.Proofs.Ytnchbgiojdijbaa.Lib

theorem bt_nat (s : ByteArray) (i : Nat) (h : i < s.size) : bt s (i : Int) = ((s[i]'h).toNat : Int) := by
  unfold bt
  rw [dif_pos (by simpa using h)]
  simp
theorem bt_ext (s : ByteArray) (x i : Nat) (h : x + i < s.size) : bt (s.extract x s.size) (i : Int) = bt s ((x + i : Nat) : Int) := by
  have h1 : i < (s.extract x s.size).size := by rw [ByteArray.size_extract]; omega
  rw [bt_nat _ i h1, bt_nat _ (x + i) h, ByteArray.getElem_extract]
/-- Where a byte first lies. -/
theorem first_bt (s : ByteArray) (c : Int) (h0 : 0 ≤ c) (h1 : c < 256) : (Go.firstIdx s c.toNat.toUInt8 = -1 ∧ ∀ i : Nat, i < s.size → bt s (i : Int) ≠ c) ∨ ∃ i : Nat, Go.firstIdx s c.toNat.toUInt8 = (i : Int) ∧ i < s.size ∧ bt s (i : Int) = c ∧ ∀ j : Nat, j < i → bt s (j : Int) ≠ c := by
  have key : ∀ i : Nat, i < s.size → ((s[i]! == c.toNat.toUInt8) = true ↔ bt s (i : Int) = c) := by
    intro i hi
    rw [bt_nat s i hi, beq_iff_eq, getElem!_pos s i hi]
    constructor
    · intro e
      rw [e]
      simp only [Nat.toUInt8, UInt8.toNat_ofNat']
      omega
    · intro e
      apply UInt8.toNat_inj.1
      simp only [Nat.toUInt8, UInt8.toNat_ofNat']
      omega
  unfold Go.firstIdx
  cases hf : (List.range s.size).find? fun i => s[i]! == c.toNat.toUInt8 with
  | none =>
    left
    refine ⟨rfl, fun i hi e => ?_⟩
    have := List.find?_eq_none.1 hf i (List.mem_range.2 hi)
    exact this ((key i hi).2 e)
  | some i =>
    right
    have hi : i < s.size := List.mem_range.1 (List.mem_of_find?_eq_some hf)
    obtain ⟨hp, k, hk, hk2, hk3⟩ := List.find?_eq_some_iff_getElem.1 hf
    rw [List.getElem_range] at hk2
    subst hk2
    refine ⟨k, rfl, hi, (key k hi).1 hp, fun j hj e => ?_⟩
    have := hk3 j hj
    rw [List.getElem_range] at this
    have h2 := (key j (by omega)).2 e
    simp only [h2] at this
    exact Bool.noConfusion this
/-- Two slashes at the head. -/
theorem prefix_bt (s : ByteArray) : stringslite_HasPrefix.f s (⟨#[47, 47]⟩ : ByteArray) = some (decide (2 ≤ s.size ∧ bt s 0 = 47 ∧ bt s 1 = 47)) := by
  unfold stringslite_HasPrefix.f
  have hs : ((⟨#[47, 47]⟩ : ByteArray).size : Int) = 2 := rfl
  rw [hs]
  by_cases h : (s.size : Int) ≥ 2
  · rw [if_pos h, if_pos (by decide), if_pos h]
    refine congrArg some ?_
    obtain ⟨⟨l⟩⟩ := s
    match l, h with
    | [], h => exact absurd h (show ¬ ((0 : Nat) : Int) ≥ 2 by decide)
    | [a], h => exact absurd h (show ¬ ((1 : Nat) : Int) ≥ 2 by decide)
    | a :: b :: t, h =>
      have e1 : bt (⟨⟨a :: b :: t⟩⟩ : ByteArray) 0 = (a.toNat : Int) := bt_nat ⟨⟨a :: b :: t⟩⟩ 0 (show 0 < t.length + 1 + 1 by omega)
      have e2 : bt (⟨⟨a :: b :: t⟩⟩ : ByteArray) 1 = (b.toNat : Int) := bt_nat ⟨⟨a :: b :: t⟩⟩ 1 (show 1 < t.length + 1 + 1 by omega)
      have e3 : ((⟨⟨a :: b :: t⟩⟩ : ByteArray).extract 0 (2 : Int).toNat).toList = [a, b] := by
        have := ByteArray.extract_mk (a :: b :: t) 0 2
        rw [show (2 : Int).toNat = 2 from rfl]
        refine (congrArg ByteArray.toList this).trans ?_
        rw [ByteArray.toList_mk]; rfl
      have e4 : (⟨#[47, 47]⟩ : ByteArray).toList = [47, 47] := ByteArray.toList_mk [47, 47]
      have e5 : 2 ≤ (⟨⟨a :: b :: t⟩⟩ : ByteArray).size := by
        show 2 ≤ t.length + 1 + 1
        omega
      rw [e1, e2, e3, e4]
      have ha : (a.toNat : Int) = 47 ↔ a = 47 := by
        constructor
        · intro e; apply UInt8.toNat_inj.1; show a.toNat = 47; omega
        · rintro rfl; rfl
      have hb : (b.toNat : Int) = 47 ↔ b = 47 := by
        constructor
        · intro e; apply UInt8.toNat_inj.1; show b.toNat = 47; omega
        · rintro rfl; rfl
      simp only [ha, hb]
      by_cases h1 : a = 47 <;> by_cases h2 : b = 47 <;> simp [h1, h2]
      show 2 ≤ t.length + 1 + 1
      omega
  · rw [if_neg h]
    refine congrArg some (decide_eq_false ?_).symm
    omega

theorem spec_line (s : ByteArray) (hs : s.size ≤ 1000000) : ∀ (d x : Nat), s.size - x = d → x ≤ s.size → ∃ y, x ≤ y ∧ y ≤ s.size ∧ (∀ j : Nat, x ≤ j → j < y → bt s (j : Int) ≠ 10) ∧ (y < s.size → bt s (y : Int) = 10) ∧ ∀ k, (y - x) + 1 ≤ k → spec_l3Skip.l1 k s (x : Int) = spec_l3Skip.l0 (k - (y - x) - 1) s (y : Int) := by
  intro d
  induction d with
  | zero =>
    intro x hd hx
    refine ⟨x, Nat.le_refl _, hx, fun j h1 h2 => by omega, fun h => by omega, fun k hk => ?_⟩
    obtain ⟨k, rfl⟩ : ∃ m, k = m + 1 := ⟨k - 1, by omega⟩
    simp only [spec_l3Skip.l1]
    rw [if_neg (by omega), show k + 1 - (x - x) - 1 = k by omega]
  | succ d ih =>
    intro x hd hx
    by_cases h10 : bt s (x : Int) = 10
    · refine ⟨x, Nat.le_refl _, hx, fun j h1 h2 => by omega, fun _ => h10, fun k hk => ?_⟩
      obtain ⟨k, rfl⟩ : ∃ m, k = m + 1 := ⟨k - 1, by omega⟩
      simp only [spec_l3Skip.l1]
      rw [if_pos (show (x : Int) < (s.size : Int) by omega), if_pos (show (0 : Int) ≤ (x : Int) by omega), if_pos h10, show k + 1 - (x - x) - 1 = k by omega]
    · obtain ⟨y, y1, y2, y3, y4, y5⟩ := ih (x + 1) (by omega) (by omega)
      refine ⟨y, by omega, y2, fun j h1 h2 => ?_, y4, fun k hk => ?_⟩
      · by_cases e : j = x
        · rw [e]; exact h10
        · exact y3 j (by omega) h2
      · obtain ⟨k, rfl⟩ : ∃ m, k = m + 1 := ⟨k - 1, by omega⟩
        simp only [spec_l3Skip.l1]
        rw [if_pos (show (x : Int) < (s.size : Int) by omega), if_pos (show (0 : Int) ≤ (x : Int) by omega), if_neg h10, w64 (by omega) (by omega), show (x : Int) + 1 = ((x + 1 : Nat) : Int) by omega, y5 k (by omega), show k - (y - (x + 1)) - 1 = k + 1 - (y - x) - 1 by omega]
/-- What stands between two words is passed over alike. -/
theorem skip_same (s : ByteArray) (hs : s.size ≤ 1000000) : ∀ (d x : Nat), s.size - x ≤ d → x ≤ s.size → ∃ p : Nat, x ≤ p ∧ p ≤ s.size ∧ (∀ k, 4 * (s.size - x) + 8 ≤ k → impl_passOver.l0 k s (x : Int) = some (p : Int)) ∧ (∀ k, 4 * (s.size - x) + 8 ≤ k → spec_l3Skip.l0 k s (x : Int) = some (p : Int)) := by
  intro d
  induction d with
  | zero =>
    intro x hd hx
    refine ⟨x, Nat.le_refl _, hx, fun k hk => ?_, fun k hk => ?_⟩ <;> obtain ⟨k, rfl⟩ : ∃ m, k = m + 1 := ⟨k - 1, by omega⟩
    · simp only [impl_passOver.l0]; rw [if_neg (by omega)]
    · simp only [spec_l3Skip.l0]; rw [if_neg (by omega)]
  | succ d ih =>
    intro x hd hx
    by_cases hlt : x < s.size
    · have q1 : (x : Int) < (s.size : Int) := by omega
      have q0 : (0 : Int) ≤ (x : Int) := by omega
      have qw : wrap64 ((x : Int) + 1) = ((x + 1 : Nat) : Int) := by rw [w64 (by omega) (by omega)]; omega
      have qj : ∀ b : Bool, b = (bt s (x : Int) == 10) → (if bt s (x : Int) = 32 then true else if bt s (x : Int) = 9 then true else b) = decide (bt s (x : Int) = 32 ∨ bt s (x : Int) = 9 ∨ bt s (x : Int) = 10) := by
        intro b hb
        subst hb
        by_cases h1 : bt s (x : Int) = 32
        · simp [h1]
        · by_cases h2 : bt s (x : Int) = 9
          · simp [h2]
          · by_cases h3 : bt s (x : Int) = 10 <;> simp [h1, h2, h3]
      have ei : ∀ k, impl_passOver.l0 (k + 1) s (x : Int) = impl_passOver.j1 k s (x : Int) (decide (bt s (x : Int) = 32 ∨ bt s (x : Int) = 9 ∨ bt s (x : Int) = 10)) := by
        intro k
        simp only [impl_passOver.l0]
        rw [if_pos q1, if_pos q0, ← qj _ rfl]
        split
        · rfl
        · split <;> rfl
      have es : ∀ k, spec_l3Skip.l0 (k + 1) s (x : Int) = spec_l3Skip.j1 k s (x : Int) (decide (bt s (x : Int) = 32 ∨ bt s (x : Int) = 9 ∨ bt s (x : Int) = 10)) := by
        intro k
        simp only [spec_l3Skip.l0]
        rw [if_pos q1, if_pos q0, ← qj _ rfl]
        split
        · rfl
        · split <;> rfl
      by_cases hb : bt s (x : Int) = 32 ∨ bt s (x : Int) = 9 ∨ bt s (x : Int) = 10
      · obtain ⟨p, p1, p2, p3, p4⟩ := ih (x + 1) (by omega) (by omega)
        refine ⟨p, by omega, p2, fun k hk => ?_, fun k hk => ?_⟩ <;> obtain ⟨k, rfl⟩ : ∃ m, k = m + 2 := ⟨k - 2, by omega⟩
        · rw [ei, decide_eq_true hb]
          simp only [impl_passOver.j1, if_true]
          rw [qw]; exact p3 k (by omega)
        · rw [es, decide_eq_true hb]
          simp only [spec_l3Skip.j1, if_true]
          rw [qw]; exact p4 k (by omega)
      · have hpre := prefix_bt (s.extract x s.size)
        have hsz : (s.extract x s.size).size = s.size - x := by rw [ByteArray.size_extract]; omega
        have hx0 : bt (s.extract x s.size) 0 = bt s (x : Int) := by
          have := bt_ext s x 0 (by omega)
          rw [Nat.add_zero] at this; exact this
        by_cases hc : x + 1 < s.size ∧ bt s (x : Int) = 47 ∧ bt s ((x + 1 : Nat) : Int) = 47
        · obtain ⟨c1, c2, c3⟩ := hc
          have hx1 : bt (s.extract x s.size) 1 = bt s ((x + 1 : Nat) : Int) := bt_ext s x 1 c1
          have hp : stringslite_HasPrefix.f (s.extract x s.size) (⟨#[47, 47]⟩ : ByteArray) = some true := by
            rw [hpre, decide_eq_true ⟨by omega, by omega, by omega⟩]
          obtain ⟨y, y1, y2, y3, y4, y5⟩ := spec_line s hs (s.size - x) x rfl hx
          have hxy : x < y := by
            rcases Nat.lt_or_ge x y with h | h
            · exact h
            · have : y = x := by omega
              subst this
              have := y4 hlt
              omega
          have hxy2 : x + 2 ≤ y := by
            rcases Nat.lt_or_ge (x + 1) y with h | h
            · omega
            · have : y = x + 1 := by omega
              subst this
              have := y4 c1
              omega
          obtain ⟨p, p1, p2, p3, p4⟩ := ih y (by omega) y2
          refine ⟨p, by omega, p2, fun k hk => ?_, fun k hk => ?_⟩
          · obtain ⟨k, rfl⟩ : ∃ m, k = m + 2 := ⟨k - 2, by omega⟩
            rw [ei, decide_eq_false hb]
            simp only [impl_passOver.j1, Bool.false_eq_true, if_false, strings_HasPrefix.f, strings_IndexByte.f, stringslite_IndexByte.f, Int.toNat_natCast]
            rw [if_pos q0, if_pos (show (x : Int) ≤ (s.size : Int) by omega), hp]
            simp only [Option.bind_some, if_true]
            rcases first_bt (s.extract x s.size) 10 (by decide) (by decide) with ⟨f1, f2⟩ | ⟨i, f1, f2, f3, f4⟩
            · have hy : y = s.size := by
                rcases Nat.lt_or_ge y s.size with h | h
                · exfalso
                  have e := f2 (y - x) (by omega)
                  rw [bt_ext s x (y - x) (by omega), show x + (y - x) = y by omega] at e
                  exact e (y4 h)
                · omega
              have hpN : p = s.size := by omega
              rw [f1, if_pos (by decide), hpN]
            · rw [bt_ext s x i (by omega)] at f3
              have hiy : x + i = y := by
                rcases Nat.lt_trichotomy (x + i) y with h | h | h
                · exact absurd f3 (y3 (x + i) (by omega) h)
                · exact h
                · exfalso
                  have e := f4 (y - x) (by omega)
                  rw [bt_ext s x (y - x) (by omega), show x + (y - x) = y by omega] at e
                  exact e (y4 (by omega))
              rw [f1, if_neg (by omega), w64 (by omega) (by omega), show (x : Int) + (i : Int) = ((y : Nat) : Int) by omega]
              exact p3 k (by omega)
          · obtain ⟨k, rfl⟩ : ∃ m, k = m + 3 := ⟨k - 3, by omega⟩
            rw [es, decide_eq_false hb]
            simp only [spec_l3Skip.j1, Bool.false_eq_true, if_false]
            rw [if_pos q0, if_pos q1, if_pos c2, qw, if_pos (show ((x + 1 : Nat) : Int) < (s.size : Int) by omega), if_pos (show (0 : Int) ≤ ((x + 1 : Nat) : Int) by omega), show (bt s ((x + 1 : Nat) : Int) == 47) = true from beq_iff_eq.mpr c3]
            simp only [spec_l3Skip.j2, if_true]
            rw [y5 k (by omega)]
            exact p4 _ (by omega)
        · have hp : stringslite_HasPrefix.f (s.extract x s.size) (⟨#[47, 47]⟩ : ByteArray) = some false := by
            rw [hpre]
            refine congrArg some (decide_eq_false ?_)
            rintro ⟨e1, e2, e3⟩
            have c1 : x + 1 < s.size := by omega
            have hx1 : bt (s.extract x s.size) 1 = bt s ((x + 1 : Nat) : Int) := bt_ext s x 1 c1
            exact hc ⟨c1, by omega, by omega⟩
          refine ⟨x, Nat.le_refl _, hx, fun k hk => ?_, fun k hk => ?_⟩
          · obtain ⟨k, rfl⟩ : ∃ m, k = m + 2 := ⟨k - 2, by omega⟩
            rw [ei, decide_eq_false hb]
            simp only [impl_passOver.j1, Bool.false_eq_true, if_false, strings_HasPrefix.f, Int.toNat_natCast]
            rw [if_pos q0, if_pos (show (x : Int) ≤ (s.size : Int) by omega), hp]
            simp only [Option.bind_some, Bool.false_eq_true, if_false]
          · obtain ⟨k, rfl⟩ : ∃ m, k = m + 3 := ⟨k - 3, by omega⟩
            rw [es, decide_eq_false hb]
            simp only [spec_l3Skip.j1, Bool.false_eq_true, if_false]
            rw [if_pos q0, if_pos q1, qw]
            by_cases c2 : bt s (x : Int) = 47
            · rw [if_pos c2]
              by_cases c1 : x + 1 < s.size
              · rw [if_pos (show ((x + 1 : Nat) : Int) < (s.size : Int) by omega), if_pos (show (0 : Int) ≤ ((x + 1 : Nat) : Int) by omega), show (bt s ((x + 1 : Nat) : Int) == 47) = false from beq_eq_false_iff_ne.mpr (fun e => hc ⟨c1, c2, e⟩)]
                simp only [spec_l3Skip.j2, Bool.false_eq_true, if_false]
              · rw [if_neg (show ¬ ((x + 1 : Nat) : Int) < (s.size : Int) by omega)]
                simp only [spec_l3Skip.j2, Bool.false_eq_true, if_false]
            · rw [if_neg c2]
              simp only [spec_l3Skip.j2, Bool.false_eq_true, if_false]
    · refine ⟨x, Nat.le_refl _, hx, fun k hk => ?_, fun k hk => ?_⟩ <;> obtain ⟨k, rfl⟩ : ∃ m, k = m + 1 := ⟨k - 1, by omega⟩
      · simp only [impl_passOver.l0]; rw [if_neg (by omega)]
      · simp only [spec_l3Skip.l0]; rw [if_neg (by omega)]

/-- A letter or '_', a figure. -/
def isL (c : Int) : Bool := decide (97 ≤ c ∧ c ≤ 122 ∨ 65 ≤ c ∧ c ≤ 90 ∨ c = 95)
def isD (c : Int) : Bool := decide (48 ≤ c ∧ c ≤ 57)
theorem letter_impl (c : Int) : impl_isLetter.f c = some (isL c) := by
  unfold impl_isLetter.f isL
  repeat' split
  all_goals refine congrArg some ?_
  all_goals first
    | (symm; apply decide_eq_true; omega)
    | (rw [Bool.eq_iff_iff, beq_iff_eq, decide_eq_true_iff]; omega)
theorem digit_impl (c : Int) : impl_isDigit.f c = some (isD c) := by
  unfold impl_isDigit.f isD
  by_cases h1 : c ≥ 48
  · rw [if_pos h1]; refine congrArg some ?_; rw [Bool.eq_iff_iff, decide_eq_true_iff, decide_eq_true_iff]; omega
  · rw [if_neg h1]; refine congrArg some (decide_eq_false ?_).symm; omega
theorem in_spec (c a b : Int) : spec_l1In.f c a b = some (decide (a ≤ c ∧ c ≤ b)) := by
  unfold spec_l1In.f
  by_cases h1 : c ≥ a
  · rw [if_pos h1]; refine congrArg some ?_; rw [Bool.eq_iff_iff, decide_eq_true_iff, decide_eq_true_iff]; omega
  · rw [if_neg h1]; refine congrArg some (decide_eq_false ?_).symm; omega
theorem digit_spec (c : Int) : spec_l3Digit.f c = some (isD c) := by
  unfold spec_l3Digit.f isD
  rw [in_spec]; rfl
theorem letter_spec (c : Int) : spec_l3Letter.f c = some (isL c) := by
  unfold spec_l3Letter.f isL
  rw [in_spec, in_spec]
  simp only [Option.bind_some, decide_eq_true_eq]
  by_cases h1 : 97 ≤ c ∧ c ≤ 122
  · rw [if_pos h1]; refine congrArg some (decide_eq_true ?_).symm; omega
  · rw [if_neg h1]
    by_cases h2 : 65 ≤ c ∧ c ≤ 90
    · rw [if_pos h2]; refine congrArg some (decide_eq_true ?_).symm; omega
    · rw [if_neg h2]; refine congrArg some ?_; rw [Bool.eq_iff_iff, beq_iff_eq, decide_eq_true_iff]; omega
theorem bt64 (s : ByteArray) (i : Int) : wrap64 (bt s i) = bt s i := by
  have := bt_range s i
  exact w64 (by omega) (by omega)
/-- A word's end. -/
theorem word_same (s : ByteArray) (hs : s.size ≤ 1000000) (x : Nat) : ∀ (d y : Nat), s.size - y = d → x ≤ y → y ≤ s.size → ∃ e : Nat, y ≤ e ∧ e ≤ s.size ∧
    (∀ k, (s.size - y) + 1 ≤ k → impl_token.l0 k s (x : Int) (y : Int) = if e - x > 20 then some (0, (⟨#[]⟩ : ByteArray), 0, 0, 12) else some (1, s.extract x e, 0, (x : Int), 0)) ∧
    (∀ k, (s.size - y) + 1 ≤ k → spec_l3Token.l0 k s (x : Int) (y : Int) = if e - x > 20 then some (0, (⟨#[]⟩ : ByteArray), 0, 0, (x : Int), 12) else some (1, s.extract x e, 0, (x : Int), (e : Int), 0)) := by
  intro d
  have fi : ∀ y : Nat, x ≤ y → y ≤ s.size → (if (wrap64 ((y : Int) - (x : Int))) > 20 then (some ((0 : Int), (⟨#[]⟩ : ByteArray), (0 : Int), (0 : Int), (12 : Int))) else (if 0 ≤ (x : Int) then (if (x : Int) ≤ (y : Int) then (if (y : Int) ≤ (s.size : Int) then (some (1, s.extract (x : Int).toNat (y : Int).toNat, 0, (x : Int), 0)) else (none)) else (none)) else (none))) = if y - x > 20 then some (0, (⟨#[]⟩ : ByteArray), 0, 0, 12) else some (1, s.extract x y, 0, (x : Int), 0) := by
    intro y h1 h2
    rw [w64 (by omega) (by omega)]
    by_cases h : y - x > 20
    · rw [if_pos h, if_pos (by omega)]
    · rw [if_neg h, if_neg (by omega), if_pos (by omega), if_pos (by omega), if_pos (by omega), Int.toNat_natCast, Int.toNat_natCast]
  have fs : ∀ y : Nat, x ≤ y → y ≤ s.size → (if (wrap64 ((y : Int) - (x : Int))) > 20 then (some ((0 : Int), (⟨#[]⟩ : ByteArray), (0 : Int), (0 : Int), (x : Int), (12 : Int))) else (if 0 ≤ (x : Int) then (if (x : Int) ≤ (y : Int) then (if (y : Int) ≤ (s.size : Int) then (some (1, s.extract (x : Int).toNat (y : Int).toNat, 0, (x : Int), (y : Int), 0)) else (none)) else (none)) else (none))) = if y - x > 20 then some (0, (⟨#[]⟩ : ByteArray), 0, 0, (x : Int), 12) else some (1, s.extract x y, 0, (x : Int), (y : Int), 0) := by
    intro y h1 h2
    rw [w64 (by omega) (by omega)]
    by_cases h : y - x > 20
    · rw [if_pos h, if_pos (by omega)]
    · rw [if_neg h, if_neg (by omega), if_pos (by omega), if_pos (by omega), if_pos (by omega), Int.toNat_natCast, Int.toNat_natCast]
  induction d with
  | zero =>
    intro y hd h1 h2
    refine ⟨y, Nat.le_refl _, h2, fun k hk => ?_, fun k hk => ?_⟩ <;> obtain ⟨k, rfl⟩ : ∃ m, k = m + 1 := ⟨k - 1, by omega⟩
    · simp only [impl_token.l0]; rw [if_neg (by omega)]; exact fi y h1 h2
    · simp only [spec_l3Token.l0]; rw [if_neg (by omega)]; exact fs y h1 h2
  | succ d ih =>
    intro y hd h1 h2
    have q1 : (y : Int) < (s.size : Int) := by omega
    have q0 : (0 : Int) ≤ (y : Int) := by omega
    have qw : wrap64 ((y : Int) + 1) = ((y + 1 : Nat) : Int) := by rw [w64 (by omega) (by omega)]; omega
    by_cases hg : isL (bt s (y : Int)) = true ∨ isD (bt s (y : Int)) = true
    · obtain ⟨e, e1, e2, e3, e4⟩ := ih (y + 1) (by omega) (by omega) (by omega)
      refine ⟨e, by omega, e2, fun k hk => ?_, fun k hk => ?_⟩ <;> obtain ⟨k, rfl⟩ : ∃ m, k = m + 1 := ⟨k - 1, by omega⟩
      · simp only [impl_token.l0, letter_impl, digit_impl, Option.bind_some]
        rw [if_pos q1, if_pos q0, qw, e3 k (by omega)]
        rcases hg with hg | hg
        · rw [if_pos hg]
        · rw [if_pos hg]; split <;> rfl
      · simp only [spec_l3Token.l0, letter_spec, digit_spec, Option.bind_some, bt64]
        rw [if_pos q1, if_pos q0, qw, e4 k (by omega)]
        rcases hg with hg | hg
        · rw [if_pos hg]
        · rw [if_pos hg]; split <;> rfl
    · have g1 : ¬ isL (bt s (y : Int)) = true := fun h => hg (.inl h)
      have g2 : ¬ isD (bt s (y : Int)) = true := fun h => hg (.inr h)
      refine ⟨y, Nat.le_refl _, h2, fun k hk => ?_, fun k hk => ?_⟩ <;> obtain ⟨k, rfl⟩ : ∃ m, k = m + 1 := ⟨k - 1, by omega⟩
      · simp only [impl_token.l0, letter_impl, digit_impl, Option.bind_some]
        rw [if_pos q1, if_pos q0, if_neg g1, if_neg g2]; exact fi y h1 h2
      · simp only [spec_l3Token.l0, letter_spec, digit_spec, Option.bind_some, bt64]
        rw [if_pos q1, if_pos q0, if_neg g1, if_neg g2]; exact fs y h1 h2
theorem mn_le (a b : Int) : mn a b = if b < a then b else a := rfl
/-- How far the value of a number has got, in both. -/
def numR (a b : Int) : Prop := (a = b ∧ 0 ≤ a ∧ a ≤ 2147483647) ∨ (2147483647 < a ∧ a ≤ 1099511627776 ∧ 2147483647 < b ∧ b ≤ 21474836479)
def finI (s : ByteArray) (x y c0 a : Int) : Option (Int × ByteArray × Int × Int × Int) := (if a > 2147483647 then (some (0, (⟨#[]⟩ : ByteArray), 0, 0, 13)) else (if c0 = 48 then (if y > (wrap64 (x + 1)) then (some (0, (⟨#[]⟩ : ByteArray), 0, 0, 13)) else (if 0 ≤ x then (if x ≤ y then (if y ≤ (s.size : Int) then (some (2, s.extract (x : Int).toNat (y : Int).toNat, a, x, 0)) else (none)) else (none)) else (none))) else (if 0 ≤ x then (if x ≤ y then (if y ≤ (s.size : Int) then (some (2, s.extract (x : Int).toNat (y : Int).toNat, a, x, 0)) else (none)) else (none)) else (none))))
def finS (x y c0 b : Int) : Option (Int × ByteArray × Int × Int × Int × Int) := (if b > 2147483647 then (some (0, (⟨#[]⟩ : ByteArray), 0, 0, x, 13)) else (if c0 = 48 then (if y > (wrap64 (x + 1)) then (some (0, (⟨#[]⟩ : ByteArray), 0, 0, x, 13)) else (some (2, (⟨#[]⟩ : ByteArray), b, x, y, 0))) else (some (2, (⟨#[]⟩ : ByteArray), b, x, y, 0))))
theorem num_i_end (s : ByteArray) (k : Nat) (x y c0 a : Int) (h : ¬ y < (s.size : Int)) : impl_token.l1 (k + 1) s x y c0 a = finI s x y c0 a := by
  simp only [impl_token.l1]; rw [if_neg h]; rfl
theorem num_i_stop (s : ByteArray) (k : Nat) (x y c0 a : Int) (h : y < (s.size : Int)) (h0 : 0 ≤ y) (hd : isD (bt s y) = false) : impl_token.l1 (k + 1) s x y c0 a = finI s x y c0 a := by
  simp only [impl_token.l1, digit_impl, Option.bind_some]; rw [if_pos h, if_pos h0, hd, if_neg Bool.false_ne_true]; rfl
theorem num_i_go (s : ByteArray) (k : Nat) (x y c0 a : Int) (h : y < (s.size : Int)) (h0 : 0 ≤ y) (hd : isD (bt s y) = true) : impl_token.l1 (k + 1) s x y c0 a = impl_token.l1 k s x (wrap64 (y + 1)) c0 (mn (wrap64 (wrap64 (10 * a) + ((bt s y) - 48) % 256)) 1099511627776) := by
  simp only [impl_token.l1, digit_impl, Option.bind_some]; rw [if_pos h, if_pos h0, if_pos hd]
theorem num_s_end (s : ByteArray) (k : Nat) (x y c0 a : Int) (h : ¬ y < (s.size : Int)) : spec_l3Token.l1 (k + 2) s x c0 y a = finS x y c0 a := by
  simp only [spec_l3Token.l1, spec_l3Token.j2]; rw [if_neg h, if_neg Bool.false_ne_true]; rfl
theorem num_s_stop (s : ByteArray) (k : Nat) (x y c0 a : Int) (h : y < (s.size : Int)) (h0 : 0 ≤ y) (hd : isD (bt s y) = false) : spec_l3Token.l1 (k + 2) s x c0 y a = finS x y c0 a := by
  simp only [spec_l3Token.l1, digit_spec, Option.bind_some, bt64]; rw [if_pos h, if_pos h0, hd]; simp only [spec_l3Token.j2]; rw [if_neg Bool.false_ne_true]; rfl
theorem num_s_go (s : ByteArray) (k : Nat) (x y c0 a : Int) (h : y < (s.size : Int)) (h0 : 0 ≤ y) (hd : isD (bt s y) = true) : spec_l3Token.l1 (k + 2) s x c0 y a = spec_l3Token.l1 k s x c0 (wrap64 (y + 1)) (if a ≤ 2147483647 then wrap64 (wrap64 (a * 10) + ((bt s y) - 48) % 256) else a) := by
  simp only [spec_l3Token.l1, digit_spec, Option.bind_some, bt64]; rw [if_pos h, if_pos h0, hd]; simp only [spec_l3Token.j2, if_true]
  rw [if_pos h, if_pos h0]
  by_cases hb : a ≤ 2147483647
  · rw [if_pos hb, if_pos hb]
  · rw [if_neg hb, if_neg hb]
theorem num_fin (s : ByteArray) (hs : s.size ≤ 1000000) (x : Nat) (c0 : Int) (y : Nat) (a b : Int) (h1 : x ≤ y) (h2 : y ≤ s.size) (hr : numR a b) : ∃ v : Int, 0 ≤ v ∧ (finI s (x : Int) (y : Int) c0 a = if v > 2147483647 ∨ c0 = 48 ∧ y > x + 1 then some (0, (⟨#[]⟩ : ByteArray), 0, 0, 13) else some (2, s.extract x y, v, (x : Int), 0)) ∧
      (finS (x : Int) (y : Int) c0 b = if v > 2147483647 ∨ c0 = 48 ∧ y > x + 1 then some (0, (⟨#[]⟩ : ByteArray), 0, 0, (x : Int), 13) else some (2, (⟨#[]⟩ : ByteArray), v, (x : Int), (y : Int), 0)) := by
  unfold finI finS
  have qx : wrap64 ((x : Int) + 1) = (x : Int) + 1 := w64 (by omega) (by omega)
  unfold numR at hr
  refine ⟨a, by rcases hr with h | h <;> omega, ?_⟩
  rw [qx, Int.toNat_natCast, Int.toNat_natCast, if_pos (show (0 : Int) ≤ (x : Int) by omega), if_pos (show (x : Int) ≤ (y : Int) by omega), if_pos (show (y : Int) ≤ (s.size : Int) by omega)]
  rcases hr with ⟨rfl, r1, r2⟩ | ⟨r1, r2, r3, r4⟩
  · rw [if_neg (show ¬ a > 2147483647 by omega), if_neg (show ¬ a > 2147483647 by omega)]
    by_cases hc : c0 = 48
    · rw [if_pos hc, if_pos hc]
      by_cases hy : y > x + 1
      · rw [if_pos (show (y : Int) > (x : Int) + 1 by omega), if_pos (Or.inr ⟨hc, hy⟩)]
        exact ⟨rfl, by rw [if_pos (show (y : Int) > (x : Int) + 1 by omega), if_pos (Or.inr ⟨hc, hy⟩)]⟩
      · have hn : ¬ (a > 2147483647 ∨ c0 = 48 ∧ y > x + 1) := by omega
        rw [if_neg (show ¬ (y : Int) > (x : Int) + 1 by omega), if_neg hn]
        exact ⟨rfl, by rw [if_neg (show ¬ (y : Int) > (x : Int) + 1 by omega), if_neg hn]⟩
    · have hn : ¬ (a > 2147483647 ∨ c0 = 48 ∧ y > x + 1) := by omega
      rw [if_neg hc, if_neg hc, if_neg hn, if_neg hn]
      exact ⟨rfl, rfl⟩
  · rw [if_pos r1, if_pos r3, if_pos (Or.inl r1), if_pos (Or.inl r1)]
    exact ⟨rfl, rfl⟩
theorem num_step (a b c : Int) (hr : numR a b) (hc : 48 ≤ c ∧ c ≤ 57) : numR (mn (wrap64 (wrap64 (10 * a) + (c - 48))) 1099511627776) (if b ≤ 2147483647 then wrap64 (wrap64 (b * 10) + (c - 48)) else b) := by
  unfold numR at hr ⊢
  rw [mn_le]
  rcases hr with ⟨rfl, r1, r2⟩ | ⟨r1, r2, r3, r4⟩
  · rw [if_pos r2, w64 (n := 10 * a) (by omega) (by omega), w64 (n := a * 10) (by omega) (by omega), w64 (n := 10 * a + (c - 48)) (by omega) (by omega), w64 (n := a * 10 + (c - 48)) (by omega) (by omega), if_neg (by omega)]
    omega
  · rw [if_neg (show ¬ b ≤ 2147483647 by omega), w64 (n := 10 * a) (by omega) (by omega), w64 (n := 10 * a + (c - 48)) (by omega) (by omega)]
    split <;> omega
theorem num_same (s : ByteArray) (hs : s.size ≤ 1000000) (x : Nat) (c0 : Int) : ∀ (d y : Nat) (a b : Int), s.size - y = d → x ≤ y → y ≤ s.size → numR a b → ∃ (e : Nat) (v : Int), y ≤ e ∧ e ≤ s.size ∧ 0 ≤ v ∧
    (∀ k, 2 * (s.size - y) + 2 ≤ k → impl_token.l1 k s (x : Int) (y : Int) c0 a = if v > 2147483647 ∨ c0 = 48 ∧ e > x + 1 then some (0, (⟨#[]⟩ : ByteArray), 0, 0, 13) else some (2, s.extract x e, v, (x : Int), 0)) ∧
    (∀ k, 2 * (s.size - y) + 2 ≤ k → spec_l3Token.l1 k s (x : Int) c0 (y : Int) b = if v > 2147483647 ∨ c0 = 48 ∧ e > x + 1 then some (0, (⟨#[]⟩ : ByteArray), 0, 0, (x : Int), 13) else some (2, (⟨#[]⟩ : ByteArray), v, (x : Int), (e : Int), 0)) := by
  intro d
  induction d with
  | zero =>
    intro y a b hd h1 h2 hr
    obtain ⟨v, v0, f1, f2⟩ := num_fin s hs x c0 y a b h1 h2 hr
    refine ⟨y, v, Nat.le_refl _, h2, v0, fun k hk => ?_, fun k hk => ?_⟩ <;> obtain ⟨k, rfl⟩ : ∃ m, k = m + 2 := ⟨k - 2, by omega⟩
    · rw [num_i_end s (k + 1) (x : Int) (y : Int) c0 a (by omega)]; exact f1
    · rw [num_s_end s k (x : Int) (y : Int) c0 b (by omega)]; exact f2
  | succ d ih =>
    intro y a b hd h1 h2 hr
    have q1 : (y : Int) < (s.size : Int) := by omega
    have q0 : (0 : Int) ≤ (y : Int) := by omega
    have qw : wrap64 ((y : Int) + 1) = ((y + 1 : Nat) : Int) := by rw [w64 (by omega) (by omega)]; omega
    by_cases hg : isD (bt s (y : Int)) = true
    · have hc := of_decide_eq_true hg
      have ed : (bt s (y : Int) - 48) % 256 = bt s (y : Int) - 48 := by omega
      have hr' := num_step a b (bt s (y : Int)) hr hc
      obtain ⟨e, v, e1, e2, v0, e3, e4⟩ := ih (y + 1) _ _ (by omega) (by omega) (by omega) hr'
      refine ⟨e, v, by omega, e2, v0, fun k hk => ?_, fun k hk => ?_⟩ <;> obtain ⟨k, rfl⟩ : ∃ m, k = m + 2 := ⟨k - 2, by omega⟩
      · rw [num_i_go s (k + 1) (x : Int) (y : Int) c0 a q1 q0 hg, qw, ed]
        exact e3 (k + 1) (by omega)
      · rw [num_s_go s k (x : Int) (y : Int) c0 b q1 q0 hg, qw, ed]
        exact e4 k (by omega)
    · have hg' : isD (bt s (y : Int)) = false := Bool.eq_false_iff.mpr hg
      obtain ⟨v, v0, f1, f2⟩ := num_fin s hs x c0 y a b h1 h2 hr
      refine ⟨y, v, Nat.le_refl _, h2, v0, fun k hk => ?_, fun k hk => ?_⟩ <;> obtain ⟨k, rfl⟩ : ∃ m, k = m + 2 := ⟨k - 2, by omega⟩
      · rw [num_i_stop s (k + 1) (x : Int) (y : Int) c0 a q1 q0 hg']; exact f1
      · rw [num_s_stop s k (x : Int) (y : Int) c0 b q1 q0 hg']; exact f2

def signs : ByteArray := ⟨#[123, 125, 61, 59, 44, 46, 45]⟩
def isS (c : Int) : Bool := decide (c = 123 ∨ c = 125 ∨ c = 61 ∨ c = 59 ∨ c = 44 ∨ c = 46 ∨ c = 45)
theorem sign_bt : bt signs 0 = 123 ∧ bt signs 1 = 125 ∧ bt signs 2 = 61 ∧ bt signs 3 = 59 ∧ bt signs 4 = 44 ∧ bt signs 5 = 46 ∧ bt signs 6 = 45 := by
  refine ⟨rfl, rfl, rfl, rfl, rfl, rfl, rfl⟩
theorem sign_first (c : Int) (h0 : 0 ≤ c) (h1 : c < 256) : (Go.firstIdx signs c.toNat.toUInt8 ≥ 0) ↔ isS c = true := by
  obtain ⟨b0, b1, b2, b3, b4, b5, b6⟩ := sign_bt
  unfold isS
  rw [decide_eq_true_iff]
  have hz : signs.size = 7 := rfl
  rcases first_bt signs c h0 h1 with ⟨e, f⟩ | ⟨i, e, hi, f, _⟩
  · rw [e]
    have f0 : bt signs 0 ≠ c := f 0 (by omega); have f1 : bt signs 1 ≠ c := f 1 (by omega); have f2 : bt signs 2 ≠ c := f 2 (by omega); have f3 : bt signs 3 ≠ c := f 3 (by omega); have f4 : bt signs 4 ≠ c := f 4 (by omega); have f5 : bt signs 5 ≠ c := f 5 (by omega); have f6 : bt signs 6 ≠ c := f 6 (by omega)
    constructor
    · intro h; omega
    · intro h
      exfalso
      rcases h with h | h | h | h | h | h | h
      · exact f0 (b0.trans h.symm)
      · exact f1 (b1.trans h.symm)
      · exact f2 (b2.trans h.symm)
      · exact f3 (b3.trans h.symm)
      · exact f4 (b4.trans h.symm)
      · exact f5 (b5.trans h.symm)
      · exact f6 (b6.trans h.symm)
  · rw [e, ← f]
    refine ⟨fun _ => ?_, fun _ => by omega⟩
    match i, hi with
    | 0, _ => exact .inl b0
    | 1, _ => exact .inr (.inl b1)
    | 2, _ => exact .inr (.inr (.inl b2))
    | 3, _ => exact .inr (.inr (.inr (.inl b3)))
    | 4, _ => exact .inr (.inr (.inr (.inr (.inl b4))))
    | 5, _ => exact .inr (.inr (.inr (.inr (.inr (.inl b5)))))
    | 6, _ => exact .inr (.inr (.inr (.inr (.inr (.inr b6)))))
    | n + 7, h => omega
theorem tok_i_L (s : ByteArray) (k x : Nat) (hx : x < s.size) (hs : s.size ≤ 1000000) (h : isL (bt s (x : Int)) = true) : impl_token.f k s (x : Int) = impl_token.l0 k s (x : Int) ((x + 1 : Nat) : Int) := by
  unfold impl_token.f
  rw [letter_impl, if_pos (show (0 : Int) ≤ (x : Int) by omega), if_pos (show (x : Int) < (s.size : Int) by omega), Option.bind_some, if_pos h, w64 (by omega) (by omega)]
  rfl
theorem tok_i_D (s : ByteArray) (k x : Nat) (hx : x < s.size) (hs : s.size ≤ 1000000) (h : isL (bt s (x : Int)) = false) (hd : isD (bt s (x : Int)) = true) : impl_token.f k s (x : Int) = impl_token.l1 k s (x : Int) ((x + 1 : Nat) : Int) (bt s (x : Int)) (bt s (x : Int) - 48) := by
  have hc := of_decide_eq_true hd
  unfold impl_token.f
  rw [letter_impl, digit_impl, if_pos (show (0 : Int) ≤ (x : Int) by omega), if_pos (show (x : Int) < (s.size : Int) by omega), Option.bind_some, Option.bind_some, h, if_neg Bool.false_ne_true, if_pos hd, w64 (by omega) (by omega), show (bt s (x : Int) - 48) % 256 = bt s (x : Int) - 48 by omega]
  rfl
theorem tok_i_S (s : ByteArray) (k x : Nat) (hx : x < s.size) (hs : s.size ≤ 1000000) (h : isL (bt s (x : Int)) = false) (hd : isD (bt s (x : Int)) = false) : impl_token.f k s (x : Int) = if isS (bt s (x : Int)) = true then some (3, s.extract x (x + 1), 0, (x : Int), 0) else some (0, (⟨#[]⟩ : ByteArray), 0, 0, 11) := by
  have hr := bt_range s (x : Int)
  have hg := sign_first (bt s (x : Int)) (by omega) (by omega)
  unfold impl_token.f
  simp only [strings_IndexByte.f, stringslite_IndexByte.f]
  rw [letter_impl, digit_impl, if_pos (show (0 : Int) ≤ (x : Int) by omega), if_pos (show (x : Int) < (s.size : Int) by omega), Option.bind_some, Option.bind_some, h, if_neg Bool.false_ne_true, hd, if_neg Bool.false_ne_true, Option.bind_some, Option.bind_some, w64 (by omega) (by omega), if_pos (show (x : Int) ≤ (x : Int) + 1 by omega), if_pos (show (x : Int) + 1 ≤ (s.size : Int) by omega), Int.toNat_natCast, show ((x : Int) + 1).toNat = x + 1 by omega]
  change (if Go.firstIdx signs (bt s (x : Int)).toNat.toUInt8 ≥ 0 then _ else _) = _
  by_cases hq : isS (bt s (x : Int)) = true
  · rw [if_pos hq, if_pos (hg.mpr hq)]
  · rw [if_neg hq, if_neg (fun e => hq (hg.mp e))]
theorem tok_s_L (s : ByteArray) (k x : Nat) (hx : x < s.size) (hs : s.size ≤ 1000000) (h : isL (bt s (x : Int)) = true) : spec_l3Token.f k s (x : Int) = spec_l3Token.l0 k s (x : Int) (x : Int) := by
  unfold spec_l3Token.f
  rw [bt64, letter_spec, if_pos (show (0 : Int) ≤ (x : Int) by omega), if_pos (show (x : Int) < (s.size : Int) by omega), Option.bind_some, if_pos h]
theorem tok_s_D (s : ByteArray) (k x : Nat) (hx : x < s.size) (hs : s.size ≤ 1000000) (h : isL (bt s (x : Int)) = false) (hd : isD (bt s (x : Int)) = true) : spec_l3Token.f k s (x : Int) = spec_l3Token.l1 k s (x : Int) (bt s (x : Int)) (x : Int) 0 := by
  unfold spec_l3Token.f
  rw [bt64, letter_spec, digit_spec, if_pos (show (0 : Int) ≤ (x : Int) by omega), if_pos (show (x : Int) < (s.size : Int) by omega), Option.bind_some, Option.bind_some, h, if_neg Bool.false_ne_true, if_pos hd]
theorem tok_s_S (s : ByteArray) (k x : Nat) (hx : x < s.size) (hs : s.size ≤ 1000000) (h : isL (bt s (x : Int)) = false) (hd : isD (bt s (x : Int)) = false) : spec_l3Token.f k s (x : Int) = if isS (bt s (x : Int)) = true then some (3, s.extract x (x + 1), 0, (x : Int), ((x + 1 : Nat) : Int), 0) else some (0, (⟨#[]⟩ : ByteArray), 0, 0, (x : Int), 11) := by
  unfold spec_l3Token.f isS
  rw [bt64, letter_spec, digit_spec, if_pos (show (0 : Int) ≤ (x : Int) by omega), if_pos (show (x : Int) < (s.size : Int) by omega), Option.bind_some, Option.bind_some, h, if_neg Bool.false_ne_true, hd, if_neg Bool.false_ne_true, w64 (by omega) (by omega), if_pos (show (x : Int) ≤ (x : Int) + 1 by omega), if_pos (show (x : Int) + 1 ≤ (s.size : Int) by omega), Int.toNat_natCast, show ((x : Int) + 1).toNat = x + 1 by omega, show (x : Int) + 1 = ((x + 1 : Nat) : Int) by omega]
  generalize bt s (x : Int) = c
  by_cases c1 : c = 123
  · rw [if_pos c1, if_pos (decide_eq_true (by omega))]
  rw [if_neg c1]
  by_cases c2 : c = 125
  · rw [if_pos c2, if_pos (decide_eq_true (by omega))]
  rw [if_neg c2]
  by_cases c3 : c = 61
  · rw [if_pos c3, if_pos (decide_eq_true (by omega))]
  rw [if_neg c3]
  by_cases c4 : c = 59
  · rw [if_pos c4, if_pos (decide_eq_true (by omega))]
  rw [if_neg c4]
  by_cases c5 : c = 44
  · rw [if_pos c5, if_pos (decide_eq_true (by omega))]
  rw [if_neg c5]
  by_cases c6 : c = 46
  · rw [if_pos c6, if_pos (decide_eq_true (by omega))]
  rw [if_neg c6]
  by_cases c7 : c = 45
  · rw [if_pos c7, if_pos (decide_eq_true (by omega))]
  rw [if_neg c7, if_neg (fun e => by have := of_decide_eq_true e; omega)]
/-- One token, in both. -/
theorem token_same (s : ByteArray) (hs : s.size ≤ 1000000) (x : Nat) (hx : x < s.size) :
    (∃ (c : Int) (u : Int × ByteArray × Int × Int) (v : Int × ByteArray × Int × Int × Int), c ≠ 0 ∧ ∀ k, 2 * s.size + 8 ≤ k → impl_token.f k s (x : Int) = some (u.1, u.2.1, u.2.2.1, u.2.2.2, c) ∧ spec_l3Token.f k s (x : Int) = some (v.1, v.2.1, v.2.2.1, v.2.2.2.1, v.2.2.2.2, c)) ∨
    (∃ (kd n : Int) (it : ByteArray) (e : Nat), x < e ∧ e ≤ s.size ∧ it.size = e - x ∧ 0 ≤ n ∧ n ≤ 2147483647 ∧ ∀ k, 2 * s.size + 8 ≤ k → impl_token.f k s (x : Int) = some (kd, it, n, (x : Int), 0) ∧ spec_l3Token.f k s (x : Int) = some (kd, if kd = 2 then (⟨#[]⟩ : ByteArray) else it, n, (x : Int), (e : Int), 0)) := by
  rcases Bool.eq_false_or_eq_true (isL (bt s (x : Int))) with hl | hl
  · obtain ⟨e, e1, e2, e3, e4⟩ := word_same s hs x (s.size - (x + 1)) (x + 1) rfl (by omega) (by omega)
    have es : ∀ k, 2 * s.size + 8 ≤ k → spec_l3Token.f k s (x : Int) = if e - x > 20 then some (0, (⟨#[]⟩ : ByteArray), 0, 0, (x : Int), 12) else some (1, s.extract x e, 0, (x : Int), (e : Int), 0) := by
      intro k hk
      obtain ⟨k, rfl⟩ : ∃ m, k = m + 1 := ⟨k - 1, by omega⟩
      rw [tok_s_L s (k + 1) x hx hs hl]
      simp only [spec_l3Token.l0, letter_spec, Option.bind_some, bt64]
      rw [if_pos (show (x : Int) < (s.size : Int) by omega), if_pos (show (0 : Int) ≤ (x : Int) by omega), if_pos hl, w64 (by omega) (by omega), show (x : Int) + 1 = ((x + 1 : Nat) : Int) by omega]
      exact e4 k (by omega)
    have ei : ∀ k, 2 * s.size + 8 ≤ k → impl_token.f k s (x : Int) = if e - x > 20 then some (0, (⟨#[]⟩ : ByteArray), 0, 0, 12) else some (1, s.extract x e, 0, (x : Int), 0) := fun k hk => by
      rw [tok_i_L s k x hx hs hl]; exact e3 k (by omega)
    by_cases hg : e - x > 20
    · refine .inl ⟨12, (0, ⟨#[]⟩, 0, 0), (0, ⟨#[]⟩, 0, 0, (x : Int)), by omega, fun k hk => ⟨?_, ?_⟩⟩
      · rw [ei k hk, if_pos hg]
      · rw [es k hk, if_pos hg]
    · refine .inr ⟨1, 0, s.extract x e, e, by omega, e2, by rw [ByteArray.size_extract]; omega, by omega, by omega, fun k hk => ⟨?_, ?_⟩⟩
      · rw [ei k hk, if_neg hg]
      · rw [es k hk, if_neg hg, if_neg (by omega)]
  · rcases Bool.eq_false_or_eq_true (isD (bt s (x : Int))) with hd | hd
    · have hc := of_decide_eq_true hd
      obtain ⟨e, v, e1, e2, v0, e3, e4⟩ := num_same s hs x (bt s (x : Int)) (s.size - (x + 1)) (x + 1) (bt s (x : Int) - 48) (bt s (x : Int) - 48) rfl (by omega) (by omega) (.inl ⟨rfl, by omega, by omega⟩)
      have es : ∀ k, 2 * s.size + 8 ≤ k → spec_l3Token.f k s (x : Int) = if v > 2147483647 ∨ bt s (x : Int) = 48 ∧ e > x + 1 then some (0, (⟨#[]⟩ : ByteArray), 0, 0, (x : Int), 13) else some (2, (⟨#[]⟩ : ByteArray), v, (x : Int), (e : Int), 0) := by
        intro k hk
        obtain ⟨k, rfl⟩ : ∃ m, k = m + 2 := ⟨k - 2, by omega⟩
        rw [tok_s_D s (k + 2) x hx hs hl hd, num_s_go s k (x : Int) (x : Int) (bt s (x : Int)) 0 (by omega) (by omega) hd, if_pos (by omega), w64 (n := (x : Int) + 1) (by omega) (by omega), w64 (n := 0 * 10) (by omega) (by omega), show (0 * 10 + (bt s (x : Int) - 48) % 256 : Int) = bt s (x : Int) - 48 by omega, w64 (by omega) (by omega), show (x : Int) + 1 = ((x + 1 : Nat) : Int) by omega]
        exact e4 k (by omega)
      have ei : ∀ k, 2 * s.size + 8 ≤ k → impl_token.f k s (x : Int) = if v > 2147483647 ∨ bt s (x : Int) = 48 ∧ e > x + 1 then some (0, (⟨#[]⟩ : ByteArray), 0, 0, 13) else some (2, s.extract x e, v, (x : Int), 0) := fun k hk => by
        rw [tok_i_D s k x hx hs hl hd]; exact e3 k (by omega)
      by_cases hg : v > 2147483647 ∨ bt s (x : Int) = 48 ∧ e > x + 1
      · refine .inl ⟨13, (0, ⟨#[]⟩, 0, 0), (0, ⟨#[]⟩, 0, 0, (x : Int)), by omega, fun k hk => ⟨?_, ?_⟩⟩
        · rw [ei k hk, if_pos hg]
        · rw [es k hk, if_pos hg]
      · refine .inr ⟨2, v, s.extract x e, e, by omega, e2, by rw [ByteArray.size_extract]; omega, by omega, by omega, fun k hk => ⟨?_, ?_⟩⟩
        · rw [ei k hk, if_neg hg]
        · rw [es k hk, if_neg hg, if_pos rfl]
    · by_cases hq : isS (bt s (x : Int)) = true
      · refine .inr ⟨3, 0, s.extract x (x + 1), x + 1, by omega, by omega, by rw [ByteArray.size_extract]; omega, by omega, by omega, fun k hk => ⟨?_, ?_⟩⟩
        · rw [tok_i_S s k x hx hs hl hd, if_pos hq]
        · rw [tok_s_S s k x hx hs hl hd, if_pos hq, if_neg (by omega)]
      · refine .inl ⟨11, (0, ⟨#[]⟩, 0, 0), (0, ⟨#[]⟩, 0, 0, (x : Int)), by omega, fun k hk => ⟨?_, ?_⟩⟩
        · rw [tok_i_S s k x hx hs hl hd, if_neg hq]
        · rw [tok_s_S s k x hx hs hl hd, if_neg hq]

/-- The loops of the two lexers tell the same. -/
theorem lex_loop (s : ByteArray) (hs : s.size ≤ 6000) : ∀ (d x : Nat) (acc : List S31), s.size - x ≤ d → x ≤ s.size → acc.length ≤ 1500 → ∃ r : List S31 × Int × Int, r.1.length ≤ 1501 ∧ (r.2.1 = 0 ∨ r.1 = []) ∧ (∀ k, 4 * s.size + 2 * (s.size - x) + 20 ≤ k → impl_Lex.l0 k s acc (x : Int) = some r) ∧ (∀ k, 4 * s.size + 2 * (s.size - x) + 20 ≤ k → spec_Lex.l0 k s acc (x : Int) = some r) := by
  intro d
  induction d with
  | zero =>
    intro x acc hd hx hl
    refine ⟨(acc ++ [(⟨4, (⟨#[]⟩ : ByteArray), 0, (s.size : Int)⟩ : S31)], 0, 0), by simp; omega, .inl rfl, fun k hk => ?_, fun k hk => ?_⟩ <;> obtain ⟨k, rfl⟩ : ∃ m, k = m + 1 := ⟨k - 1, by omega⟩
    · simp only [impl_Lex.l0]; rw [if_neg (by omega), if_pos (by omega)]
    · simp only [spec_Lex.l0]; rw [if_neg (by omega), if_pos (by omega)]
  | succ d ih =>
    intro x acc hd hx hl
    by_cases hlt : x < s.size
    · have q1 : (x : Int) < (s.size : Int) := by omega
      rcases token_same s (by omega) x hlt with ⟨c, u, v, hc, ht⟩ | ⟨kd, n, it, e, e1, e2, e3, n0, n1, ht⟩
      · refine ⟨([], c, (x : Int)), by simp, .inr rfl, fun k hk => ?_, fun k hk => ?_⟩
        · obtain ⟨k, rfl⟩ : ∃ m, k = m + 1 := ⟨k - 1, by omega⟩
          simp only [impl_Lex.l0]
          rw [if_pos q1, (ht k (by omega)).1, Option.bind_some, if_neg hc]
        · obtain ⟨k, rfl⟩ : ∃ m, k = m + 2 := ⟨k - 2, by omega⟩
          simp only [spec_Lex.l0]
          rw [if_pos q1, (ht (k + 1) (by omega)).2, Option.bind_some, if_neg hc]
          simp only [spec_Lex.j1, Bool.false_eq_true, if_false]
          rw [if_neg hc]
      · by_cases hf : (acc.length : Int) = 1500
        · refine ⟨([], 14, (x : Int)), by simp, .inr rfl, fun k hk => ?_, fun k hk => ?_⟩
          · obtain ⟨k, rfl⟩ : ∃ m, k = m + 1 := ⟨k - 1, by omega⟩
            simp only [impl_Lex.l0]
            rw [if_pos q1, (ht k (by omega)).1, Option.bind_some, if_pos rfl, if_pos hf]
          · obtain ⟨k, rfl⟩ : ∃ m, k = m + 2 := ⟨k - 2, by omega⟩
            simp only [spec_Lex.l0]
            rw [if_pos q1, (ht (k + 1) (by omega)).2, Option.bind_some, if_pos rfl, show ((acc.length : Int) == 1500) = true from beq_iff_eq.mpr hf]
            simp only [spec_Lex.j1, if_true]
            rw [if_neg (by omega)]
        · obtain ⟨p, p1, p2, p3, p4⟩ := skip_same s (by omega) (s.size - e) e (Nat.le_refl _) e2
          obtain ⟨r, r1, r2, r3, r4⟩ := ih p (acc ++ [(⟨kd, if kd = 2 then (⟨#[]⟩ : ByteArray) else it, n, (x : Int)⟩ : S31)]) (by omega) p2 (by simp; omega)
          refine ⟨r, r1, r2, fun k hk => ?_, fun k hk => ?_⟩
          · obtain ⟨k, rfl⟩ : ∃ m, k = m + 1 := ⟨k - 1, by omega⟩
            simp only [impl_Lex.l0]
            rw [if_pos q1, (ht k (by omega)).1, Option.bind_some, if_pos rfl, if_neg hf, e3, w64 (by omega) (by omega), show (x : Int) + ((e - x : Nat) : Int) = (e : Int) by omega]
            simp only [impl_passOver.f]
            rw [p3 k (by omega), Option.bind_some]
            have := r3 k (by omega)
            by_cases hk2 : kd = 2
            · rw [if_pos hk2] at this ⊢; rw [if_pos (by omega)]; exact this
            · rw [if_neg hk2] at this ⊢; rw [if_pos (by omega)]; exact this
          · obtain ⟨k, rfl⟩ : ∃ m, k = m + 2 := ⟨k - 2, by omega⟩
            simp only [spec_Lex.l0]
            rw [if_pos q1, (ht (k + 1) (by omega)).2, Option.bind_some, if_pos rfl, show ((acc.length : Int) == 1500) = false from beq_eq_false_iff_ne.mpr hf]
            simp only [spec_Lex.j1, spec_l3Skip.f, Bool.false_eq_true, if_false, if_true]
            rw [if_pos (by omega), p4 k (by omega), Option.bind_some]
            exact r4 k (by omega)
    · refine ⟨(acc ++ [(⟨4, (⟨#[]⟩ : ByteArray), 0, (s.size : Int)⟩ : S31)], 0, 0), by simp; omega, .inl rfl, fun k hk => ?_, fun k hk => ?_⟩ <;> obtain ⟨k, rfl⟩ : ∃ m, k = m + 1 := ⟨k - 1, by omega⟩
      · simp only [impl_Lex.l0]; rw [if_neg (by omega), if_pos (by omega)]
      · simp only [spec_Lex.l0]; rw [if_neg (by omega), if_pos (by omega)]
/-- The two lexers tell the same. -/
theorem lex_same (s : ByteArray) : ∃ r : List S31 × Int × Int, r.1.length ≤ 1501 ∧ (r.2.1 = 0 ∨ r.1 = []) ∧ (∀ k, 6 * s.size + 30 ≤ k → impl_Lex.f k s = some r) ∧ (∀ k, 6 * s.size + 30 ≤ k → spec_Lex.f k s = some r) := by
  by_cases hs : (s.size : Int) > 6000
  · refine ⟨([], 14, 0), by simp, .inr rfl, fun k _ => ?_, fun k _ => ?_⟩
    · unfold impl_Lex.f; rw [if_pos hs]
    · unfold spec_Lex.f; rw [if_pos hs]
  · obtain ⟨p, p1, p2, p3, p4⟩ := skip_same s (by omega) s.size 0 (by omega) (by omega)
    obtain ⟨r, r1, r2, r3, r4⟩ := lex_loop s (by omega) s.size p [] (by omega) p2 (by simp)
    refine ⟨r, r1, r2, fun k hk => ?_, fun k hk => ?_⟩
    · unfold impl_Lex.f; rw [if_neg hs]
      simp only [impl_passOver.f]
      have := p3 k (by omega)
      rw [show ((0 : Nat) : Int) = 0 from rfl] at this
      rw [this, Option.bind_some]
      exact r3 k (by omega)
    · unfold spec_Lex.f; rw [if_neg hs]
      simp only [spec_l3Skip.f]
      have := p4 k (by omega)
      rw [show ((0 : Nat) : Int) = 0 from rfl] at this
      rw [this, Option.bind_some]
      exact r4 k (by omega)

/-- A cursor that a draw may have: its bytes, its place from 0 on. -/
theorem new_ends (l : List Int) (hlen : l.length ≤ 140737488355328) : ∀ (d k : Nat) (i h : Int), 0 ≤ i → i ≤ l.length → l.length - i = d → d < k → ∃ h', spec_l1New.l0 k l h i = some (l, 0, h') := by
  intro d
  induction d with
  | zero =>
    intro k i h h0 h1 hd hk
    obtain ⟨k, rfl⟩ : ∃ m, k = m + 1 := ⟨k - 1, by omega⟩
    exact ⟨_, by simp only [spec_l1New.l0]; rw [if_neg (by omega)]⟩
  | succ d ih =>
    intro k i h h0 h1 hd hk
    obtain ⟨k, rfl⟩ : ∃ m, k = m + 1 := ⟨k - 1, by omega⟩
    simp only [spec_l1New.l0]
    rw [if_pos (show i < (l.length : Int) by omega)]
    by_cases h4 : i < 4000
    · simp only [if_pos h4, if_pos h0]
      rw [w64 (n := i + 1) (by omega) (by omega)]
      exact ih k (i + 1) _ (by omega) (by omega) (by omega) (by omega)
    · simp only [if_neg h4]
      exact ⟨_, rfl⟩
theorem new_some (l : List Int) (hlen : l.length ≤ 140737488355328) (k : Nat) (hk : l.length < k) : ∃ h, spec_l1New.f k l = some (l, 0, h) := by
  unfold spec_l1New.f
  exact new_ends l hlen l.length k 0 _ (by omega) (by omega) (by omega) hk
theorem byte_some (l : List Int) (hlen : l.length ≤ 140737488355328) (i h : Int) (hi : 0 ≤ i ∧ i ≤ l.length) : ∃ x i' h', spec_l1Byte.f l i h = some (x, i', h') ∧ 0 ≤ x ∧ x ≤ 255 ∧ (0 ≤ i' ∧ i' ≤ l.length) := by
  unfold spec_l1Byte.f
  have a255 : ∀ x : Int, Go.bits .and .i64 x 255 = x % 256 := fun x => and_i64 8 (by decide) x
  simp only [a255]
  split
  · rw [if_pos hi.1]
    exact ⟨_, _, _, rfl, by omega, by omega, by rw [w64 (by omega) (by omega)]; omega⟩
  · exact ⟨_, _, _, rfl, by omega, by omega, hi⟩
/-- What is drawn below n: 0 to n - 1 (0 where n is not above 0). -/
theorem below_some (l : List Int) (hlen : l.length ≤ 140737488355328) (i h n : Int) (hi : 0 ≤ i ∧ i ≤ l.length) : ∃ x i' h', spec_l1Below.f l i h n = some (x, i', h') ∧ 0 ≤ x ∧ (0 < n → x < n) ∧ (n ≤ 0 → x = 0) ∧ (0 ≤ i' ∧ i' ≤ l.length) := by
  unfold spec_l1Below.f
  by_cases h0 : n ≤ 0
  · rw [if_pos h0]; exact ⟨_, _, _, rfl, by omega, by omega, by omega, hi⟩
  · rw [if_neg h0]
    split
    · obtain ⟨x, i', h', e, x0, x1, hi'⟩ := byte_some l hlen i h hi
      rw [e]
      simp only [Option.bind_some]
      rw [if_neg (by omega), Int.tmod_eq_emod_of_nonneg x0]
      exact ⟨_, _, _, rfl, Int.emod_nonneg _ (by omega), fun _ => Int.emod_lt_of_pos _ (by omega), by omega, hi'⟩
    · obtain ⟨x, i1, h1, e1, x0, x1, hi1⟩ := byte_some l hlen i h hi
      obtain ⟨y, i2, h2, e2, y0, y1, hi2⟩ := byte_some l hlen i1 h1 hi1
      obtain ⟨z, i3, h3, e3, z0, z1, hi3⟩ := byte_some l hlen i2 h2 hi2
      rw [e1]
      simp only [Option.bind_some, e2, e3]
      rw [if_neg (by omega), w64 (n := x * 65536) (by omega) (by omega), w64 (n := y * 256) (by omega) (by omega), w64 (n := x * 65536 + y * 256) (by omega) (by omega), w64 (n := x * 65536 + y * 256 + z) (by omega) (by omega), Int.tmod_eq_emod_of_nonneg (by omega)]
      exact ⟨_, _, _, rfl, Int.emod_nonneg _ (by omega), fun _ => Int.emod_lt_of_pos _ (by omega), by omega, hi3⟩

theorem rdS_in (l : List ByteArray) (i : Int) (h0 : 0 ≤ i) (h : i < (l.length : Int)) : rdOf ByteArray.empty l i ∈ l := by
  unfold rdOf
  rw [List.getD_eq_getElem?_getD, List.getElem?_eq_getElem (show i.toNat < l.length by omega)]
  exact List.getElem_mem _
theorem str_some (l : List Int) (hlen : l.length ≤ 140737488355328) (i h : Int) (xs : List ByteArray) (hx : 0 < xs.length) (hi : 0 ≤ i ∧ i ≤ l.length) : ∃ x i' h', spec_l1Str.f l i h xs = some (x, i', h') ∧ x ∈ xs ∧ (0 ≤ i' ∧ i' ≤ l.length) := by
  obtain ⟨j, i', h', e, j0, j1, _, hi'⟩ := below_some l hlen i h (xs.length : Int) hi
  unfold spec_l1Str.f
  rw [e]
  simp only [Option.bind_some]
  rw [if_pos j0, if_pos (j1 (by omega))]
  exact ⟨_, _, _, rfl, rdS_in xs _ j0 (j1 (by omega)), hi'⟩
theorem once_some (l : List Int) (hlen : l.length ≤ 140737488355328) (i h n : Int) (hi : 0 ≤ i ∧ i ≤ l.length) : ∃ b i' h', spec_l1Once.f l i h n = some (b, i', h') ∧ (0 ≤ i' ∧ i' ≤ l.length) := by
  obtain ⟨j, i', h', e, j0, j1, _, hi'⟩ := below_some l hlen i h n hi
  unfold spec_l1Once.f
  rw [e, Option.bind_some]
  exact ⟨_, _, _, rfl, hi'⟩
theorem small_str (xs : List ByteArray) (h : xs.all (fun x => decide (x.size ≤ 30)) = true) : ∀ x ∈ xs, x.size ≤ 30 := fun x hx => of_decide_eq_true (List.all_eq_true.1 h x hx)
theorem drawlex1 : ∀ (d : Nat) (x : List Int) (i : Nat), x.length - i = d → i ≤ x.length → x.length ≤ 100000 → ∃ r, ∀ k, d + 1 ≤ k → spec_DrawLex.l1 k x (i : Int) = some r := by
  intro d
  induction d with
  | zero =>
    intro x i hd hi hl
    refine ⟨strOfNums x, fun k hk => ?_⟩
    obtain ⟨k, rfl⟩ : ∃ m, k = m + 1 := ⟨k - 1, by omega⟩
    simp only [spec_DrawLex.l1]
    rw [if_neg (by omega)]
  | succ d ih =>
    intro x i hd hi hl
    obtain ⟨r, hr⟩ := ih (x.set i 32) (i + 1) (by rw [List.length_set]; omega) (by rw [List.length_set]; omega) (by rw [List.length_set]; omega)
    refine ⟨r, fun k hk => ?_⟩
    obtain ⟨k, rfl⟩ : ∃ m, k = m + 1 := ⟨k - 1, by omega⟩
    simp only [spec_DrawLex.l1]
    rw [if_pos (by omega), if_pos (by omega), w64 (by omega) (by omega), show (i : Int) + 1 = ((i + 1 : Nat) : Int) by omega, Int.toNat_natCast]
    exact hr k (by omega)
theorem drawlex2 (l : List Int) (hlen : l.length ≤ 140737488355328) : ∀ (d : Nat) (x : List Int) (j : Nat) (i h : Int), 1502 - j ≤ d → x.length ≤ 2 * j → j ≤ 1502 → (0 ≤ i ∧ i ≤ l.length) → ∃ r, ∀ k, d + 1 ≤ k → spec_DrawLex.l2 k x (j : Int) l i h = some r := by
  intro d
  induction d with
  | zero =>
    intro x j i h hd hx hj hi
    obtain ⟨b, i', h', e, b0, b1, _, hi'⟩ := below_some l hlen i h 2 hi
    have := b1 (by omega)
    refine ⟨strOfNums x, fun k hk => ?_⟩
    obtain ⟨k, rfl⟩ : ∃ m, k = m + 1 := ⟨k - 1, by omega⟩
    simp only [spec_DrawLex.l2]
    rw [e, Option.bind_some]
    simp only []
    rw [w64 (by omega) (by omega), if_neg (by omega)]
  | succ d ih =>
    intro x j i h hd hx hj hi
    obtain ⟨b, i', h', e, b0, b1, _, hi'⟩ := below_some l hlen i h 2 hi
    have := b1 (by omega)
    by_cases hlt : (j : Int) < 1500 + b
    · obtain ⟨r, hr⟩ := ih (x ++ [120, 32]) (j + 1) i' h' (by omega) (by simp; omega) (by omega) hi'
      refine ⟨r, fun k hk => ?_⟩
      obtain ⟨k, rfl⟩ : ∃ m, k = m + 1 := ⟨k - 1, by omega⟩
      simp only [spec_DrawLex.l2]
      rw [e, Option.bind_some]
      simp only [Option.bind_some]
      rw [w64 (by omega) (by omega), if_pos hlt, if_pos (by simp; omega), w64 (by omega) (by omega), show (j : Int) + 1 = ((j + 1 : Nat) : Int) by omega]
      exact hr k (by omega)
    · refine ⟨strOfNums x, fun k hk => ?_⟩
      obtain ⟨k, rfl⟩ : ∃ m, k = m + 1 := ⟨k - 1, by omega⟩
      simp only [spec_DrawLex.l2]
      rw [e, Option.bind_some]
      simp only []
      rw [w64 (by omega) (by omega), if_neg hlt]
theorem bytesOf_len (x : ByteArray) : (bytesOf x).length = x.size := by
  exact bytesOf_length x
theorem drawlex_end (l : List Int) (hlen : l.length ≤ 140737488355328) (x : List Int) (hx : x.length ≤ 5000) (i h : Int) (hi : 0 ≤ i ∧ i ≤ l.length) : ∃ r, ∀ k, 8001 ≤ k → spec_DrawLex.l0 k x 0 l i h = some r := by
  obtain ⟨b, i1, h1, e1, b0, b1, _, hi1⟩ := below_some l hlen i h 30 hi
  by_cases c0 : b = 0
  · obtain ⟨s, i2, h2, e2, s0, hi2⟩ := str_some l hlen i1 h1 (([(⟨#[47]⟩ : ByteArray), (⟨#[50, 49, 52, 55, 52, 56, 51, 54, 52, 56]⟩ : ByteArray), (⟨#[48, 48]⟩ : ByteArray), (⟨#[97, 98, 99, 100, 101, 102, 103, 104, 105, 106, 107, 108, 109, 110, 111, 112, 113, 114, 115, 116, 117]⟩ : ByteArray), (⟨#[255]⟩ : ByteArray), (⟨#[57, 57, 57, 57, 57, 57, 57, 57, 57, 57, 57, 57, 57, 57, 57, 57, 57, 57, 57, 57, 57, 57, 57]⟩ : ByteArray)] : List ByteArray)) (by decide) hi1
    have s1 := small_str _ (by rfl) s s0
    refine ⟨strOfNums (x ++ bytesOf s), fun k hk => ?_⟩
    obtain ⟨k, rfl⟩ : ∃ m, k = m + 1 := ⟨k - 1, by omega⟩
    simp only [spec_DrawLex.l0]
    rw [if_neg (by omega), e1, Option.bind_some]
    simp only []
    rw [if_pos c0, e2, Option.bind_some]
    simp only []
    rw [if_pos (by omega)]
  by_cases c1 : b = 1
  · by_cases hx0 : (x.length : Int) > 0
    · obtain ⟨p, i2, h2, e2, p0, p1, _, hi2⟩ := below_some l hlen i1 h1 (x.length : Int) hi1
      obtain ⟨q, i3, h3, e3, q0, q1, hi3⟩ := byte_some l hlen i2 h2 hi2
      refine ⟨strOfNums (x.set p.toNat (q % 256)), fun k hk => ?_⟩
      obtain ⟨k, rfl⟩ : ∃ m, k = m + 1 := ⟨k - 1, by omega⟩
      simp only [spec_DrawLex.l0]
      rw [if_neg (by omega), e1, Option.bind_some]
      simp only []
      rw [if_neg c0, if_pos c1, if_pos hx0, e2, Option.bind_some]
      simp only []
      rw [e3, Option.bind_some]
      simp only []
      rw [if_pos p0, if_pos (p1 hx0)]
    · refine ⟨strOfNums x, fun k hk => ?_⟩
      obtain ⟨k, rfl⟩ : ∃ m, k = m + 1 := ⟨k - 1, by omega⟩
      simp only [spec_DrawLex.l0]
      rw [if_neg (by omega), e1, Option.bind_some]
      simp only []
      rw [if_neg c0, if_pos c1, if_neg hx0]
  by_cases c2 : b = 2
  · obtain ⟨p, i2, h2, e2, p0, p1, _, hi2⟩ := below_some l hlen i1 h1 2 hi1
    have := p1 (by omega)
    obtain ⟨r, hr⟩ := drawlex1 (List.replicate (6000 + p).toNat (0 : Int)).length (List.replicate (6000 + p).toNat (0 : Int)) 0 (by omega) (by omega) (by rw [List.length_replicate]; omega)
    refine ⟨r, fun k hk => ?_⟩
    obtain ⟨k, rfl⟩ : ∃ m, k = m + 1 := ⟨k - 1, by omega⟩
    simp only [spec_DrawLex.l0]
    rw [if_neg (by omega), e1, Option.bind_some]
    simp only []
    rw [if_neg c0, if_neg c1, if_pos c2, e2, Option.bind_some]
    simp only []
    rw [w64 (by omega) (by omega), if_pos (by omega), if_pos (by omega)]
    exact hr k (by rw [List.length_replicate]; omega)
  by_cases c3 : b = 3
  · obtain ⟨r, hr⟩ := drawlex2 l hlen 1502 [] 0 i1 h1 (by omega) (by simp) (by omega) hi1
    refine ⟨r, fun k hk => ?_⟩
    obtain ⟨k, rfl⟩ : ∃ m, k = m + 1 := ⟨k - 1, by omega⟩
    simp only [spec_DrawLex.l0]
    rw [if_neg (by omega), e1, Option.bind_some]
    simp only []
    rw [if_neg c0, if_neg c1, if_neg c2, if_pos c3]
    exact hr k (by omega)
  · refine ⟨strOfNums x, fun k hk => ?_⟩
    obtain ⟨k, rfl⟩ : ∃ m, k = m + 1 := ⟨k - 1, by omega⟩
    simp only [spec_DrawLex.l0]
    rw [if_neg (by omega), e1, Option.bind_some]
    simp only []
    rw [if_neg c0, if_neg c1, if_neg c2, if_neg c3]
theorem drawlex0 (l : List Int) (hlen : l.length ≤ 140737488355328) : ∀ (d : Nat) (x : List Int) (i h : Int), d ≤ 50 → x.length + 60 * d ≤ 5000 → (0 ≤ i ∧ i ≤ l.length) → ∃ r, ∀ k, 8001 + d ≤ k → spec_DrawLex.l0 k x (d : Int) l i h = some r := by
  intro d
  induction d with
  | zero =>
    intro x i h hd hx hi
    exact drawlex_end l hlen x (by omega) i h hi
  | succ d ih =>
    intro x i h hd hx hi
    obtain ⟨s, i1, h1, e1, s0, hi1⟩ := str_some l hlen i h (([(⟨#[109, 101, 115, 115, 97, 103, 101]⟩ : ByteArray), (⟨#[65]⟩ : ByteArray), (⟨#[120, 95, 49]⟩ : ByteArray), (⟨#[123]⟩ : ByteArray), (⟨#[125]⟩ : ByteArray), (⟨#[61]⟩ : ByteArray), (⟨#[49, 50]⟩ : ByteArray), (⟨#[48]⟩ : ByteArray), (⟨#[59]⟩ : ByteArray), (⟨#[44]⟩ : ByteArray), (⟨#[46]⟩ : ByteArray), (⟨#[45]⟩ : ByteArray), (⟨#[114, 101, 112, 101, 97, 116, 101, 100]⟩ : ByteArray), (⟨#[47, 47, 32, 110, 111, 116, 101, 10]⟩ : ByteArray), (⟨#[50, 49, 52, 55, 52, 56, 51, 54, 52, 55]⟩ : ByteArray), (⟨#[97, 98, 99, 100, 101, 102, 103, 104, 105, 106, 107, 108, 109, 110, 111, 112, 113, 114, 115, 116]⟩ : ByteArray)] : List ByteArray)) (by decide) hi
    have s1 := small_str _ (by rfl) s s0
    obtain ⟨b, i2, h2, e2, hi2⟩ := once_some l hlen i1 h1 5 hi1
    have hd1 : wrap64 (((d + 1 : Nat) : Int) - 1) = (d : Int) := by rw [w64 (by omega) (by omega)]; omega
    by_cases hb : b = true
    · obtain ⟨r, hr⟩ := ih (x ++ bytesOf s) i2 h2 (by omega) (by rw [List.length_append, bytesOf_len]; omega) hi2
      refine ⟨r, fun k hk => ?_⟩
      obtain ⟨k, rfl⟩ : ∃ m, k = m + 1 := ⟨k - 1, by omega⟩
      simp only [spec_DrawLex.l0]
      rw [if_pos (by omega), e1, Option.bind_some]
      simp only []
      rw [if_pos (by omega), Option.bind_some, e2, Option.bind_some]
      simp only []
      rw [if_pos hb, hd1]
      exact hr k (by omega)
    · obtain ⟨s2, i3, h3, e3, s20, hi3⟩ := str_some l hlen i2 h2 (([(⟨#[32]⟩ : ByteArray), (⟨#[10]⟩ : ByteArray), (⟨#[9]⟩ : ByteArray), (⟨#[32, 32]⟩ : ByteArray)] : List ByteArray)) (by decide) hi2
      have s21 := small_str _ (by rfl) s2 s20
      obtain ⟨r, hr⟩ := ih (x ++ bytesOf s ++ bytesOf s2) i3 h3 (by omega) (by rw [List.length_append, List.length_append, bytesOf_len, bytesOf_len]; omega) hi3
      refine ⟨r, fun k hk => ?_⟩
      obtain ⟨k, rfl⟩ : ∃ m, k = m + 1 := ⟨k - 1, by omega⟩
      simp only [spec_DrawLex.l0]
      rw [if_pos (by omega), e1, Option.bind_some]
      simp only []
      rw [if_pos (by omega), Option.bind_some, e2, Option.bind_some]
      simp only []
      rw [if_neg hb, e3, Option.bind_some]
      simp only []
      rw [if_pos (by rw [List.length_append, bytesOf_len]; omega), hd1]
      exact hr k (by omega)
/-- The drawn text is told. -/
theorem drawlex_some (l : List Int) (hlen : l.length ≤ 140737488355328) (k : Nat) (hk : l.length + 10000 ≤ k) : ∃ r, spec_DrawLex.f k l = some r := by
  have hs : ∃ n, spec_l1Size.f l 40 = some n ∧ n ≤ 40 := by
    unfold spec_l1Size.f
    split
    · exact ⟨_, rfl, by omega⟩
    · exact ⟨_, rfl, by omega⟩
  obtain ⟨n, e1, n1⟩ := hs
  obtain ⟨h, eh⟩ := new_some l hlen k (by omega)
  obtain ⟨b, i1, h1, e2, b0, b1, b2, hi1⟩ := below_some l hlen 0 h n ⟨by omega, by omega⟩
  have hb : b ≤ 40 := by by_cases hn : 0 < n <;> omega
  obtain ⟨r, hr⟩ := drawlex0 l hlen b.toNat [] i1 h1 (by omega) (by simp; omega) hi1
  refine ⟨r, ?_⟩
  unfold spec_DrawLex.f
  rw [eh, Option.bind_some]
  simp only []
  rw [e1, Option.bind_some, e2, Option.bind_some]
  simp only []
  have := hr k (by omega)
  rw [show ((b.toNat : Nat) : Int) = b by omega] at this
  exact this

/-- A letter, '_' or a figure. -/
def isLD (c : Int) : Bool := isL c || isD c
theorem class_end (s : ByteArray) (p : Int → Bool) : ∀ (d y : Nat), s.size - y = d → y ≤ s.size → ∃ e, y ≤ e ∧ e ≤ s.size ∧ (∀ j : Nat, y ≤ j → j < e → p (bt s (j : Int)) = true) ∧ (e < s.size → p (bt s (e : Int)) = false) := by
  intro d
  induction d with
  | zero => intro y hd hy; exact ⟨y, Nat.le_refl _, hy, fun j h1 h2 => by omega, fun h => by omega⟩
  | succ d ih =>
    intro y hd hy
    rcases Bool.eq_false_or_eq_true (p (bt s (y : Int))) with h | h
    · obtain ⟨e, e1, e2, e3, e4⟩ := ih (y + 1) (by omega) (by omega)
      refine ⟨e, by omega, e2, fun j h1 h2 => ?_, e4⟩
      by_cases hj : j = y
      · rw [hj]; exact h
      · exact e3 j (by omega) h2
    · exact ⟨y, Nat.le_refl _, hy, fun j h1 h2 => by omega, fun _ => h⟩
theorem word_run (s : ByteArray) (hs : s.size ≤ 1000000) (x e : Nat) (he : e ≤ s.size) (hstop : e < s.size → isLD (bt s (e : Int)) = false) : ∀ (d y : Nat), e - y = d → x ≤ y → y ≤ e → (∀ j : Nat, y ≤ j → j < e → isLD (bt s (j : Int)) = true) →
    ∀ k, d + 1 ≤ k → impl_token.l0 k s (x : Int) (y : Int) = if e - x > 20 then some (0, (⟨#[]⟩ : ByteArray), 0, 0, 12) else some (1, s.extract x e, 0, (x : Int), 0) := by
  have fi : ∀ y : Nat, x ≤ y → y ≤ s.size → (if (wrap64 ((y : Int) - (x : Int))) > 20 then (some ((0 : Int), (⟨#[]⟩ : ByteArray), (0 : Int), (0 : Int), (12 : Int))) else (if 0 ≤ (x : Int) then (if (x : Int) ≤ (y : Int) then (if (y : Int) ≤ (s.size : Int) then (some (1, s.extract (x : Int).toNat (y : Int).toNat, 0, (x : Int), 0)) else (none)) else (none)) else (none))) = if y - x > 20 then some (0, (⟨#[]⟩ : ByteArray), 0, 0, 12) else some (1, s.extract x y, 0, (x : Int), 0) := by
    intro y h1 h2
    rw [w64 (by omega) (by omega)]
    by_cases h : y - x > 20
    · rw [if_pos h, if_pos (by omega)]
    · rw [if_neg h, if_neg (by omega), if_pos (by omega), if_pos (by omega), if_pos (by omega), Int.toNat_natCast, Int.toNat_natCast]
  intro d
  induction d with
  | zero =>
    intro y hd h1 h2 hall k hk
    obtain rfl : y = e := by omega
    obtain ⟨k, rfl⟩ : ∃ m, k = m + 1 := ⟨k - 1, by omega⟩
    by_cases hz : y < s.size
    · have hn := hstop hz
      unfold isLD at hn
      rw [Bool.or_eq_false_iff] at hn
      simp only [impl_token.l0, letter_impl, digit_impl, Option.bind_some]
      rw [if_pos (by omega), if_pos (by omega), if_neg (by rw [hn.1]; exact Bool.false_ne_true), if_neg (by rw [hn.2]; exact Bool.false_ne_true)]; exact fi y h1 he
    · simp only [impl_token.l0]; rw [if_neg (by omega)]; exact fi y h1 he
  | succ d ih =>
    intro y hd h1 h2 hall k hk
    obtain ⟨k, rfl⟩ : ∃ m, k = m + 1 := ⟨k - 1, by omega⟩
    have hg := hall y (Nat.le_refl _) (by omega)
    have := ih (y + 1) (by omega) (by omega) (by omega) (fun j a b => hall j (by omega) b) k (by omega)
    unfold isLD at hg
    rw [Bool.or_eq_true] at hg
    simp only [impl_token.l0, letter_impl, digit_impl, Option.bind_some]
    rw [if_pos (by omega), if_pos (by omega), w64 (n := (y : Int) + 1) (by omega) (by omega), show (y : Int) + 1 = ((y + 1 : Nat) : Int) by omega, this]
    rcases hg with hg | hg
    · rw [if_pos hg]
    · rw [if_pos hg]; split <;> rfl
def numV (s : ByteArray) : Nat → Nat → Int → Int
  | 0, _, a => a
  | d + 1, y, a => numV s d (y + 1) (mn (wrap64 (wrap64 (10 * a) + ((bt s (y : Int)) - 48) % 256)) 1099511627776)
theorem numV_congr (s s' : ByteArray) : ∀ (d y y' : Nat) (a : Int), (∀ j, j < d → bt s ((y + j : Nat) : Int) = bt s' ((y' + j : Nat) : Int)) → numV s d y a = numV s' d y' a := by
  intro d
  induction d with
  | zero => intro y y' a h; rfl
  | succ d ih =>
    intro y y' a h
    have h0 := h 0 (by omega)
    rw [Nat.add_zero, Nat.add_zero] at h0
    unfold numV
    rw [h0]
    exact ih (y + 1) (y' + 1) _ (fun j hj => by have := h (j + 1) (by omega); rw [show y + 1 + j = y + (j + 1) by omega, show y' + 1 + j = y' + (j + 1) by omega]; exact this)
theorem num_run (s : ByteArray) (hs : s.size ≤ 1000000) (x e : Nat) (c0 : Int) (he : e ≤ s.size) (hstop : e < s.size → isD (bt s (e : Int)) = false) : ∀ (d y : Nat) (a : Int), e - y = d → y ≤ e → (∀ j : Nat, y ≤ j → j < e → isD (bt s (j : Int)) = true) →
    ∀ k, d + 1 ≤ k → impl_token.l1 k s (x : Int) (y : Int) c0 a = finI s (x : Int) (e : Int) c0 (numV s d y a) := by
  intro d
  induction d with
  | zero =>
    intro y a hd h2 hall k hk
    obtain rfl : y = e := by omega
    obtain ⟨k, rfl⟩ : ∃ m, k = m + 1 := ⟨k - 1, by omega⟩
    by_cases hz : y < s.size
    · exact num_i_stop s k (x : Int) (y : Int) c0 a (by omega) (by omega) (hstop hz)
    · exact num_i_end s k (x : Int) (y : Int) c0 a (by omega)
  | succ d ih =>
    intro y a hd h2 hall k hk
    obtain ⟨k, rfl⟩ : ∃ m, k = m + 1 := ⟨k - 1, by omega⟩
    rw [num_i_go s k (x : Int) (y : Int) c0 a (by omega) (by omega) (hall y (Nat.le_refl _) (by omega)), w64 (n := (y : Int) + 1) (by omega) (by omega), show (y : Int) + 1 = ((y + 1 : Nat) : Int) by omega]
    exact ih (y + 1) _ (by omega) (by omega) (fun j a b => hall j (by omega) b) k (by omega)
theorem finI_eq (s : ByteArray) (hs : s.size ≤ 1000000) (x e : Nat) (c0 v : Int) (h1 : x ≤ e) (h2 : e ≤ s.size) : finI s (x : Int) (e : Int) c0 v = if v > 2147483647 ∨ c0 = 48 ∧ e > x + 1 then some (0, (⟨#[]⟩ : ByteArray), 0, 0, 13) else some (2, s.extract x e, v, (x : Int), 0) := by
  unfold finI
  rw [w64 (n := (x : Int) + 1) (by omega) (by omega), Int.toNat_natCast, Int.toNat_natCast, if_pos (show (0 : Int) ≤ (x : Int) by omega), if_pos (show (x : Int) ≤ (e : Int) by omega), if_pos (show (e : Int) ≤ (s.size : Int) by omega)]
  by_cases hv : v > 2147483647
  · rw [if_pos hv, if_pos (Or.inl hv)]
  · rw [if_neg hv]
    by_cases hc : c0 = 48
    · rw [if_pos hc]
      by_cases hy : e > x + 1
      · rw [if_pos (show (e : Int) > (x : Int) + 1 by omega), if_pos (Or.inr ⟨hc, hy⟩)]
      · rw [if_neg (show ¬ (e : Int) > (x : Int) + 1 by omega), if_neg (by omega)]
    · rw [if_neg hc, if_neg (by omega)]
theorem extract_congr (s s' : ByteArray) (x x' n : Nat) (h1 : x + n ≤ s.size) (h2 : x' + n ≤ s'.size) (h : ∀ j, j < n → bt s ((x + j : Nat) : Int) = bt s' ((x' + j : Nat) : Int)) : s.extract x (x + n) = s'.extract x' (x' + n) := by
  apply ByteArray.ext
  apply Array.ext
  · show (s.extract x (x + n)).size = (s'.extract x' (x' + n)).size
    rw [ByteArray.size_extract, ByteArray.size_extract]; omega
  · intro i hi1 hi2
    have a1 : i < (s.extract x (x + n)).size := hi1
    have a2 : i < (s'.extract x' (x' + n)).size := hi2
    show (s.extract x (x + n))[i]'a1 = (s'.extract x' (x' + n))[i]'a2
    rw [ByteArray.size_extract] at a1 a2
    rw [ByteArray.getElem_extract, ByteArray.getElem_extract]
    have := h i (by omega)
    rw [bt_nat s _ (by omega), bt_nat s' _ (by omega)] at this
    exact UInt8.toNat_inj.mp (by omega)
def isW (c : Int) : Bool := isL c || isD c || isS c
theorem isW_ne {c : Int} (h : isW c = true) : c ≠ 32 ∧ c ≠ 9 ∧ c ≠ 10 ∧ c ≠ 47 := by
  unfold isW isL isD isS at h
  rw [Bool.or_eq_true, Bool.or_eq_true, decide_eq_true_iff, decide_eq_true_iff, decide_eq_true_iff] at h
  omega
/-- A token's text, wherever it stands ahead of a blank, is the same token. -/
def Reloc (it : ByteArray) (kd n : Int) : Prop := ∀ (s : ByteArray) (x : Nat), s.size ≤ 1000000 → x + it.size < s.size → (∀ j, j < it.size → bt s ((x + j : Nat) : Int) = bt it ((j : Nat) : Int)) → bt s ((x + it.size : Nat) : Int) = 32 →
  ∀ k, 2 * s.size + 8 ≤ k → impl_token.f k s (x : Int) = some (kd, it, n, (x : Int), 0)
/-- What is so of each token of a text. -/
def TokAt (s : ByteArray) (q : S31 × ByteArray) : Prop := ∃ (x e : Nat) (kd n : Int), x < e ∧ e ≤ s.size ∧ q.2 = s.extract x e ∧ q.1 = ⟨kd, if kd = 2 then (⟨#[]⟩ : ByteArray) else s.extract x e, n, (x : Int)⟩ ∧ isW (bt s (x : Int)) = true ∧
  (kd = 2 → (∀ j : Nat, x ≤ j → j < e → isD (bt s (j : Int)) = true) ∧ (e < s.size → isD (bt s (e : Int)) = false)) ∧ Reloc q.2 kd n
theorem bt_ext2 (s : ByteArray) (x e i : Nat) (h : x + i < e) (he : e ≤ s.size) : bt (s.extract x e) (i : Int) = bt s ((x + i : Nat) : Int) := by
  have h1 : i < (s.extract x e).size := by rw [ByteArray.size_extract]; omega
  rw [bt_nat _ i h1, bt_nat _ (x + i) (by omega), ByteArray.getElem_extract]
theorem isD32 : isD 32 = false := rfl
theorem isLD32 : isLD 32 = false := rfl
/-- One token. -/
theorem token_at (s : ByteArray) (hs : s.size ≤ 1000000) (x : Nat) (hx : x < s.size) :
    (∃ (c : Int) (u : Int × ByteArray × Int × Int), c ≠ 0 ∧ ∀ k, 2 * s.size + 8 ≤ k → impl_token.f k s (x : Int) = some (u.1, u.2.1, u.2.2.1, u.2.2.2, c)) ∨
    (∃ (kd n : Int) (e : Nat), x < e ∧ e ≤ s.size ∧ (∀ k, 2 * s.size + 8 ≤ k → impl_token.f k s (x : Int) = some (kd, s.extract x e, n, (x : Int), 0)) ∧ TokAt s (⟨kd, if kd = 2 then (⟨#[]⟩ : ByteArray) else s.extract x e, n, (x : Int)⟩, s.extract x e)) := by
  rcases Bool.eq_false_or_eq_true (isL (bt s (x : Int))) with hl | hl
  · obtain ⟨e, e1, e2, e3, e4⟩ := class_end s isLD (s.size - (x + 1)) (x + 1) rfl (by omega)
    have ei : ∀ k, 2 * s.size + 8 ≤ k → impl_token.f k s (x : Int) = if e - x > 20 then some (0, (⟨#[]⟩ : ByteArray), 0, 0, 12) else some (1, s.extract x e, 0, (x : Int), 0) := fun k hk => by
      rw [tok_i_L s k x hx hs hl]; exact word_run s hs x e e2 e4 (e - (x + 1)) (x + 1) rfl (by omega) e1 e3 k (by omega)
    by_cases hg : e - x > 20
    · exact .inl ⟨12, (0, ⟨#[]⟩, 0, 0), by omega, fun k hk => by rw [ei k hk, if_pos hg]⟩
    · have esz : (s.extract x e).size = e - x := by rw [ByteArray.size_extract]; omega
      refine .inr ⟨1, 0, e, by omega, e2, fun k hk => by rw [ei k hk, if_neg hg], x, e, 1, 0, by omega, e2, rfl, rfl, by unfold isW; rw [hl]; rfl, fun h => by omega, ?_⟩
      intro s' x' hs' hx' hb h32 k hk
      simp only [esz] at hx' hb h32
      have hb' : ∀ j, j < e - x → bt s ((x + j : Nat) : Int) = bt s' ((x' + j : Nat) : Int) := fun j hj => by rw [hb j hj]; exact (bt_ext2 s x e j (by omega) e2).symm
      have h0 : bt s' (x' : Int) = bt s (x : Int) := by have := hb' 0 (by omega); rw [Nat.add_zero, Nat.add_zero] at this; exact this.symm
      rw [tok_i_L s' k x' (by omega) hs' (by rw [h0]; exact hl), word_run s' hs' x' (x' + (e - x)) (by omega) (fun _ => by rw [h32]; rfl) (e - x - 1) (x' + 1) (by omega) (by omega) (by omega) (fun j h1 h2 => ?_) k (by omega), if_neg (by omega)]
      · have := extract_congr s s' x x' (e - x) (by omega) (by omega) hb'
        rw [show x + (e - x) = e by omega] at this
        rw [← this]
      · have := e3 (x + (j - x')) (by omega) (by omega)
        rw [hb' (j - x') (by omega), show x' + (j - x') = j by omega] at this
        exact this
  · rcases Bool.eq_false_or_eq_true (isD (bt s (x : Int))) with hd | hd
    · obtain ⟨e, e1, e2, e3, e4⟩ := class_end s isD (s.size - (x + 1)) (x + 1) rfl (by omega)
      have ei : ∀ k, 2 * s.size + 8 ≤ k → impl_token.f k s (x : Int) = finI s (x : Int) (e : Int) (bt s (x : Int)) (numV s (e - (x + 1)) (x + 1) (bt s (x : Int) - 48)) := fun k hk => by
        rw [tok_i_D s k x hx hs hl hd]; exact num_run s hs x e _ e2 e4 (e - (x + 1)) (x + 1) _ rfl e1 e3 k (by omega)
      rw [finI_eq s hs x e _ _ (by omega) e2] at ei
      by_cases hg : numV s (e - (x + 1)) (x + 1) (bt s (x : Int) - 48) > 2147483647 ∨ bt s (x : Int) = 48 ∧ e > x + 1
      · exact .inl ⟨13, (0, ⟨#[]⟩, 0, 0), by omega, fun k hk => by rw [ei k hk, if_pos hg]⟩
      · have esz : (s.extract x e).size = e - x := by rw [ByteArray.size_extract]; omega
        refine .inr ⟨2, numV s (e - (x + 1)) (x + 1) (bt s (x : Int) - 48), e, by omega, e2, fun k hk => by rw [ei k hk, if_neg hg], x, e, 2, numV s (e - (x + 1)) (x + 1) (bt s (x : Int) - 48), by omega, e2, rfl, rfl, by unfold isW; rw [hd, Bool.or_true]; rfl, fun _ => ⟨fun j h1 h2 => ?_, e4⟩, ?_⟩
        · by_cases hj : j = x
          · rw [hj]; exact hd
          · exact e3 j (by omega) h2
        intro s' x' hs' hx' hb h32 k hk
        simp only [esz] at hx' hb h32
        have hb' : ∀ j, j < e - x → bt s ((x + j : Nat) : Int) = bt s' ((x' + j : Nat) : Int) := fun j hj => by rw [hb j hj]; exact (bt_ext2 s x e j (by omega) e2).symm
        have h0 : bt s' (x' : Int) = bt s (x : Int) := by have := hb' 0 (by omega); rw [Nat.add_zero, Nat.add_zero] at this; exact this.symm
        have hv : numV s' (e - (x + 1)) (x' + 1) (bt s (x : Int) - 48) = numV s (e - (x + 1)) (x + 1) (bt s (x : Int) - 48) := (numV_congr s s' (e - (x + 1)) (x + 1) (x' + 1) _ (fun j hj => by have := hb' (j + 1) (by omega); rw [show x + 1 + j = x + (j + 1) by omega, show x' + 1 + j = x' + (j + 1) by omega]; exact this)).symm
        rw [tok_i_D s' k x' (by omega) hs' (by rw [h0]; exact hl) (by rw [h0]; exact hd), num_run s' hs' x' (x' + (e - x)) (bt s' (x' : Int)) (by omega) (fun _ => by rw [h32]; rfl) (e - (x + 1)) (x' + 1) (bt s' (x' : Int) - 48) (by omega) (by omega) (fun j h1 h2 => ?_) k (by omega), finI_eq s' hs' x' (x' + (e - x)) _ _ (by omega) (by omega), h0, hv, if_neg (fun h => hg (by omega))]
        · have := extract_congr s s' x x' (e - x) (by omega) (by omega) hb'
          rw [show x + (e - x) = e by omega] at this
          rw [← this]
        · have := e3 (x + (j - x')) (by omega) (by omega)
          rw [hb' (j - x') (by omega), show x' + (j - x') = j by omega] at this
          exact this
    · by_cases hq : isS (bt s (x : Int)) = true
      · have esz : (s.extract x (x + 1)).size = 1 := by rw [ByteArray.size_extract]; omega
        refine .inr ⟨3, 0, x + 1, by omega, by omega, fun k hk => by rw [tok_i_S s k x hx hs hl hd, if_pos hq], x, x + 1, 3, 0, by omega, by omega, rfl, rfl, by unfold isW; rw [hq, Bool.or_true], fun h => by omega, ?_⟩
        intro s' x' hs' hx' hb h32 k hk
        simp only [esz] at hx' hb h32
        have hb' : ∀ j, j < 1 → bt s ((x + j : Nat) : Int) = bt s' ((x' + j : Nat) : Int) := fun j hj => by rw [hb j hj]; exact (bt_ext2 s x (x + 1) j (by omega) (by omega)).symm
        have h0 : bt s' (x' : Int) = bt s (x : Int) := by have := hb' 0 (by omega); rw [Nat.add_zero, Nat.add_zero] at this; exact this.symm
        rw [tok_i_S s' k x' (by omega) hs' (by rw [h0]; exact hl) (by rw [h0]; exact hd), h0, if_pos hq, extract_congr s s' x x' 1 (by omega) (by omega) hb']
      · exact .inl ⟨11, (0, ⟨#[]⟩, 0, 0), by omega, fun k hk => by rw [tok_i_S s k x hx hs hl hd, if_neg hq]⟩

theorem tokat_w {s : ByteArray} {q : S31 × ByteArray} (h : TokAt s q) : ∃ (kd n x : Int), q.1 = ⟨kd, if kd = 2 then (⟨#[]⟩ : ByteArray) else q.2, n, x⟩ ∧ 0 < q.2.size ∧ q.2.size ≤ s.size ∧ isW (bt q.2 0) = true ∧ Reloc q.2 kd n := by
  obtain ⟨x, e, kd, n, h1, h2, h3, h4, h5, h6, h7⟩ := h
  refine ⟨kd, n, (x : Int), by rw [h4, h3], ?_, ?_, ?_, h7⟩
  · rw [h3, ByteArray.size_extract]; omega
  · rw [h3, ByteArray.size_extract]; omega
  · rw [h3]
    have := bt_ext2 s x e 0 (by omega) h2
    rw [Nat.add_zero] at this
    rw [show (0 : Int) = ((0 : Nat) : Int) from rfl, this]; exact h5
def Rising (qs : List (S31 × ByteArray)) (x : Nat) : Prop := (∀ q ∈ qs, q.1.f3 < (x : Int)) ∧ qs.Pairwise (fun a b => a.1.f3 < b.1.f3)
theorem Rising.up {qs : List (S31 × ByteArray)} {x y : Nat} (h : Rising qs x) (hxy : x ≤ y) : Rising qs y := ⟨fun q hq => by have := h.1 q hq; omega, h.2⟩
theorem Rising.snoc {qs : List (S31 × ByteArray)} {x y : Nat} {q : S31 × ByteArray} (h : Rising qs x) (hq : q.1.f3 = (x : Int)) (hxy : x < y) : Rising (qs ++ [q]) y := by
  refine ⟨fun p hp => ?_, List.pairwise_append.2 ⟨h.2, List.pairwise_singleton _ _, fun a ha b hb => ?_⟩⟩
  · rcases List.mem_append.1 hp with hp | hp
    · have := h.1 p hp; omega
    · rw [List.mem_singleton.1 hp]; omega
  · rw [List.mem_singleton.1 hb, hq]; exact h.1 a ha
/-- The lexer's answer: a fault and nothing, or tokens each of which stands in the text, and the end. -/
theorem lexA (s : ByteArray) (hs : s.size ≤ 6000) : ∀ (d x : Nat) (qs : List (S31 × ByteArray)), s.size - x ≤ d → x ≤ s.size → qs.length ≤ 1500 → (∀ q ∈ qs, TokAt s q) → Rising qs x →
    ∃ r : List S31 × Int × Int, (∀ k, 4 * s.size + 2 * (s.size - x) + 20 ≤ k → impl_Lex.l0 k s (qs.map (·.1)) (x : Int) = some r) ∧ ((r.2.1 ≠ 0 ∧ r.1 = []) ∨ ∃ qs' : List (S31 × ByteArray), r = (qs'.map (·.1) ++ [(⟨4, (⟨#[]⟩ : ByteArray), 0, (s.size : Int)⟩ : S31)], 0, 0) ∧ qs'.length ≤ 1500 ∧ (∀ q ∈ qs', TokAt s q) ∧ Rising qs' s.size) := by
  intro d
  have fin : ∀ (x : Nat) (qs : List (S31 × ByteArray)), x = s.size → qs.length ≤ 1500 → (∀ q ∈ qs, TokAt s q) → Rising qs x →
    ∃ r : List S31 × Int × Int, (∀ k, 4 * s.size + 2 * (s.size - x) + 20 ≤ k → impl_Lex.l0 k s (qs.map (·.1)) (x : Int) = some r) ∧ ((r.2.1 ≠ 0 ∧ r.1 = []) ∨ ∃ qs' : List (S31 × ByteArray), r = (qs'.map (·.1) ++ [(⟨4, (⟨#[]⟩ : ByteArray), 0, (s.size : Int)⟩ : S31)], 0, 0) ∧ qs'.length ≤ 1500 ∧ (∀ q ∈ qs', TokAt s q) ∧ Rising qs' s.size) := by
    intro x qs hx hl hq hr
    refine ⟨(qs.map (·.1) ++ [(⟨4, (⟨#[]⟩ : ByteArray), 0, (s.size : Int)⟩ : S31)], 0, 0), fun k hk => ?_, .inr ⟨qs, rfl, hl, hq, by rw [← hx]; exact hr⟩⟩
    obtain ⟨k, rfl⟩ : ∃ m, k = m + 1 := ⟨k - 1, by omega⟩
    simp only [impl_Lex.l0]; rw [if_neg (by omega), if_pos (by rw [List.length_map]; omega)]
  induction d with
  | zero => intro x qs hd hx hl hq hr; exact fin x qs (by omega) hl hq hr
  | succ d ih =>
    intro x qs hd hx hl hq hr
    by_cases hlt : x < s.size
    · have q1 : (x : Int) < (s.size : Int) := by omega
      rcases token_at s (by omega) x hlt with ⟨c, u, hc, ht⟩ | ⟨kd, n, e, e1, e2, ht, hT⟩
      · refine ⟨([], c, (x : Int)), fun k hk => ?_, .inl ⟨hc, rfl⟩⟩
        obtain ⟨k, rfl⟩ : ∃ m, k = m + 1 := ⟨k - 1, by omega⟩
        simp only [impl_Lex.l0]
        rw [if_pos q1, ht k (by omega), Option.bind_some, if_neg hc]
      · by_cases hf : ((qs.map (·.1)).length : Int) = 1500
        · refine ⟨([], 14, (x : Int)), fun k hk => ?_, .inl ⟨by simp, rfl⟩⟩
          obtain ⟨k, rfl⟩ : ∃ m, k = m + 1 := ⟨k - 1, by omega⟩
          simp only [impl_Lex.l0]
          rw [if_pos q1, ht k (by omega), Option.bind_some, if_pos rfl, if_pos hf]
        · obtain ⟨p, p1, p2, p3, p4⟩ := skip_same s (by omega) (s.size - e) e (Nat.le_refl _) e2
          have hf' := hf
          rw [List.length_map] at hf'
          obtain ⟨r, r1, r2⟩ := ih p (qs ++ [(⟨kd, if kd = 2 then (⟨#[]⟩ : ByteArray) else s.extract x e, n, (x : Int)⟩, s.extract x e)]) (by omega) p2 (by simp; omega)
            (fun q hqm => by rcases List.mem_append.1 hqm with h | h; exact hq q h; rw [List.mem_singleton.1 h]; exact hT) (hr.snoc rfl (by omega))
          refine ⟨r, fun k hk => ?_, r2⟩
          obtain ⟨k, rfl⟩ : ∃ m, k = m + 1 := ⟨k - 1, by omega⟩
          have esz : (s.extract x e).size = e - x := by rw [ByteArray.size_extract]; omega
          simp only [impl_Lex.l0]
          rw [if_pos q1, ht k (by omega), Option.bind_some, if_pos rfl, if_neg hf]
          simp only [impl_passOver.f]
          rw [esz, w64 (by omega) (by omega), show (x : Int) + ((e - x : Nat) : Int) = (e : Int) by omega, p3 k (by omega), Option.bind_some]
          have := r1 k (by omega)
          rw [List.map_append, List.map_cons, List.map_nil] at this
          simp only [] at this
          by_cases hk2 : kd = 2
          · rw [if_pos hk2] at this ⊢; rw [if_pos (by rw [List.length_map]; omega)]; exact this
          · rw [if_neg hk2] at this ⊢; rw [if_pos (by rw [List.length_map]; omega)]; exact this
    · exact fin x qs (by omega) hl hq hr
theorem lexF (s : ByteArray) : ∃ r : List S31 × Int × Int, (∀ k, 50000 ≤ k → impl_Lex.f k s = some r) ∧ (∀ k, 50000 ≤ k → spec_Lex.f k s = some r) ∧ ((r.2.1 ≠ 0 ∧ r.1 = []) ∨ s.size ≤ 6000 ∧ ∃ qs : List (S31 × ByteArray), r = (qs.map (·.1) ++ [(⟨4, (⟨#[]⟩ : ByteArray), 0, (s.size : Int)⟩ : S31)], 0, 0) ∧ qs.length ≤ 1500 ∧ (∀ q ∈ qs, TokAt s q) ∧ Rising qs s.size) := by
  by_cases hs : (s.size : Int) > 6000
  · refine ⟨([], 14, 0), fun k _ => ?_, fun k _ => ?_, .inl ⟨by simp, rfl⟩⟩
    · unfold impl_Lex.f; rw [if_pos hs]
    · unfold spec_Lex.f; rw [if_pos hs]
  · obtain ⟨p, p1, p2, p3, p4⟩ := skip_same s (by omega) s.size 0 (by omega) (by omega)
    obtain ⟨r, r1, r2⟩ := lexA s (by omega) s.size p [] (by omega) p2 (by simp) (fun q hq => by cases hq) ⟨fun q hq => (by cases hq), List.Pairwise.nil⟩
    obtain ⟨r', _, _, h3, h4⟩ := lex_same s
    have e1 : ∀ k, 50000 ≤ k → impl_Lex.f k s = some r := fun k hk => by
      unfold impl_Lex.f; rw [if_neg hs]
      simp only [impl_passOver.f]
      have := p3 k (by omega)
      rw [show ((0 : Nat) : Int) = 0 from rfl] at this
      rw [this, Option.bind_some]
      exact r1 k (by omega)
    have hrr : r = r' := by
      have a := e1 50000 (Nat.le_refl _)
      rw [h3 50000 (by omega)] at a
      exact (Option.some.inj a).symm
    refine ⟨r, e1, fun k hk => by rw [h4 k (by omega), hrr], ?_⟩
    rcases r2 with h | h
    · exact .inl h
    · exact .inr ⟨by omega, h⟩
theorem rd_app (xs ys : List S31) (b : S31) : rd_T31 (xs ++ b :: ys) (xs.length : Int) = b := by
  unfold rd_T31
  rw [Int.toNat_natCast, List.getD_eq_getElem?_getD, List.getElem?_append_right (Nat.le_refl _), Nat.sub_self]; rfl
def Wd (qs : List (S31 × ByteArray)) : List Int := qs.flatMap (fun q => bytesOf q.2 ++ [32])
theorem Wd_snoc (qs : List (S31 × ByteArray)) (q : S31 × ByteArray) : Wd (qs ++ [q]) = Wd qs ++ bytesOf q.2 ++ [32] := by
  unfold Wd
  rw [List.flatMap_append, List.flatMap_cons, List.flatMap_nil, List.append_nil, List.append_assoc]
theorem Wd_cons (qs : List (S31 × ByteArray)) (q : S31 × ByteArray) : Wd (q :: qs) = bytesOf q.2 ++ [32] ++ Wd qs := by
  unfold Wd; rw [List.flatMap_cons]
theorem Wd_len (qs : List (S31 × ByteArray)) (h : ∀ q ∈ qs, q.2.size ≤ 6000) : (Wd qs).length ≤ qs.length * 6001 := by
  induction qs with
  | nil => simp [Wd]
  | cons q qs ih =>
    have := ih (fun p hp => h p (List.mem_cons_of_mem _ hp))
    have h1 := h q List.mem_cons_self
    rw [Wd_cons, List.length_append, List.length_append, bytesOf_length, List.length_singleton, List.length_cons]; omega
/-- The walk back over blanks has an end. -/
theorem back_run (T : ByteArray) (hT : T.size ≤ 1000000) (L : List S31) (X : List Int) (i kd : Int) (f1 : ByteArray) (n x : Int) (hx : 0 ≤ x) : ∀ (y : Nat), y ≤ T.size → ∃ c, c ≤ y + 1 ∧ ∀ k, laws_FnWords.l1 (k + c) T L X i (y : Int) kd f1 n x = laws_FnWords.j4 k T L X i kd f1 n x := by
  intro y
  induction y with
  | zero =>
    intro _
    refine ⟨1, by omega, fun k => ?_⟩
    simp only [laws_FnWords.l1]; rw [if_neg (by omega)]
  | succ y ih =>
    intro hy
    by_cases hg : ((y + 1 : Nat) : Int) > x
    · have w1 : wrap64 (((y + 1 : Nat) : Int) - 1) = (y : Int) := by rw [w64 (by omega) (by omega)]; omega
      obtain ⟨c, c1, c2⟩ := ih (by omega)
      by_cases h32 : bt T (y : Int) = 32
      · refine ⟨c + 1, by omega, fun k => ?_⟩
        rw [show k + (c + 1) = (k + c) + 1 by omega]
        simp only [laws_FnWords.l1, w1]
        rw [if_pos hg, if_pos (by omega), if_pos (by omega), if_pos h32]; exact c2 k
      by_cases h9 : bt T (y : Int) = 9
      · refine ⟨c + 1, by omega, fun k => ?_⟩
        rw [show k + (c + 1) = (k + c) + 1 by omega]
        simp only [laws_FnWords.l1, w1]
        rw [if_pos hg, if_pos (by omega), if_pos (by omega), if_neg h32, if_pos h9]; exact c2 k
      by_cases h10 : bt T (y : Int) = 10
      · refine ⟨c + 1, by omega, fun k => ?_⟩
        rw [show k + (c + 1) = (k + c) + 1 by omega]
        simp only [laws_FnWords.l1, w1]
        rw [if_pos hg, if_pos (by omega), if_pos (by omega), if_neg h32, if_neg h9, if_pos h10]; exact c2 k
      · refine ⟨1, by omega, fun k => ?_⟩
        simp only [laws_FnWords.l1, w1]
        rw [if_pos hg, if_pos (by omega), if_pos (by omega), if_neg h32, if_neg h9, if_neg h10]
    · refine ⟨1, by omega, fun k => ?_⟩
      simp only [laws_FnWords.l1]; rw [if_neg hg]
/-- A number's figures, copied. -/
theorem fig_run (T : ByteArray) (hT : T.size ≤ 1000000) (L : List S31) (X : List Int) (hX : X.length ≤ 10000000) (i kd : Int) (f1 : ByteArray) (n : Int) (x e : Nat) (he : e ≤ T.size) (hstop : e < T.size → isD (bt T (e : Int)) = false) (hi : 0 ≤ i ∧ i ≤ 2000) :
    ∀ (d y : Nat), e - y = d → x ≤ y → y ≤ e → (∀ j : Nat, y ≤ j → j < e → isD (bt T (j : Int)) = true) → ∀ k, laws_FnWords.l2 (k + (d + 1)) T L X i (y : Int) kd f1 n (x : Int) = laws_FnWords.l0 k T L (X ++ bytesOf (T.extract x e) ++ [32]) (i + 1) := by
  have tail : ∀ k, (if 0 ≤ (x : Int) then (if (x : Int) ≤ (e : Int) then (if (e : Int) ≤ (T.size : Int) then (if X.length + (T.extract (x : Int).toNat (e : Int).toNat).size < 140737488355328 then ((some (X ++ bytesOf (T.extract (x : Int).toNat (e : Int).toNat) : List Int)).bind fun y286 => (if y286.length < 140737488355328 then (laws_FnWords.l0 k T L (y286 ++ [32]) (wrap64 (i + 1))) else (none))) else (none)) else (none)) else (none)) else (none)) = laws_FnWords.l0 k T L (X ++ bytesOf (T.extract x e) ++ [32]) (i + 1) ∨ ¬ x ≤ e := by
    intro k
    by_cases hxe : x ≤ e
    · left
      have esz : (T.extract x e).size = e - x := by rw [ByteArray.size_extract]; omega
      rw [Int.toNat_natCast, Int.toNat_natCast, if_pos (by omega), if_pos (by omega), if_pos (by omega), esz, if_pos (by omega), Option.bind_some, if_pos (by rw [List.length_append, bytesOf_length, esz]; omega), w64 (by omega) (by omega)]
    · right; exact hxe
  intro d
  induction d with
  | zero =>
    intro y hd h1 h2 hall k
    obtain rfl : y = e := by omega
    rcases tail k with ht | ht
    · simp only [laws_FnWords.l2]
      by_cases hz : (y : Int) < (T.size : Int)
      · have hs := hstop (by omega)
        have hs' := of_decide_eq_false hs
        rw [if_pos hz, if_pos (show (0 : Int) ≤ (y : Int) by omega)]
        by_cases h48 : bt T (y : Int) ≥ 48
        · rw [if_pos h48, if_neg (by omega)]; exact ht
        · rw [if_neg h48]; exact ht
      · rw [if_neg hz]; exact ht
    · exact absurd h1 ht
  | succ d ih =>
    intro y hd h1 h2 hall k
    have hc := of_decide_eq_true (hall y (Nat.le_refl _) (by omega))
    rw [show k + (d + 1 + 1) = (k + (d + 1)) + 1 by omega]
    simp only [laws_FnWords.l2]
    rw [if_pos (by omega), if_pos (by omega), if_pos (by omega), if_pos (by omega), w64 (by omega) (by omega), show (y : Int) + 1 = ((y + 1 : Nat) : Int) by omega]
    exact ih (y + 1) (by omega) (by omega) (by omega) (fun j a b => hall j (by omega) b) k

theorem size_strN (xs : List Int) : (strOfNums xs).size = xs.length := by
  simp [strOfNums, ByteArray.size]
theorem bytesOf_get (s : ByteArray) (j : Nat) (h : j < s.size) (h' : j < (bytesOf s).length) : (bytesOf s)[j] = bt s (j : Int) := by
  rw [bt_nat s j h]
  simp only [bytesOf, List.getElem_map, Array.getElem_toList]
  rfl
theorem bt_strN (xs : List Int) (hx : ∀ n ∈ xs, 0 ≤ n ∧ n ≤ 255) (j : Nat) (h : j < xs.length) : bt (strOfNums xs) (j : Int) = xs[j] := by
  have hj : j < (strOfNums xs).size := by rw [size_strN]; exact h
  rw [bt_nat _ j hj]
  have e : (strOfNums xs)[j]'hj = UInt8.ofNat (xs[j]).toNat := by
    show (strOfNums xs).data[j]'hj = _
    simp [strOfNums]
  rw [e]
  have := hx xs[j] (List.getElem_mem h)
  rw [UInt8.toNat_ofNat']
  omega
theorem bytesOf_range (s : ByteArray) : ∀ n ∈ bytesOf s, 0 ≤ n ∧ n ≤ 255 := by
  intro n hn
  obtain ⟨i, hi, rfl⟩ := List.getElem_of_mem hn
  have h := hi
  rw [bytesOf_length] at h
  rw [bytesOf_get s i h hi]
  exact bt_range s _
theorem Wd_range (qs : List (S31 × ByteArray)) : ∀ n ∈ Wd qs, 0 ≤ n ∧ n ≤ 255 := by
  intro n hn
  obtain ⟨q, _, hq⟩ := List.mem_flatMap.1 hn
  rcases List.mem_append.1 hq with h | h
  · exact bytesOf_range _ n h
  · rw [List.mem_singleton.1 h]; omega
/-- The law's loop writes each token's text and a blank. -/
theorem law_loop (T : ByteArray) (hT : T.size ≤ 6000) (qs : List (S31 × ByteArray)) (hl : qs.length ≤ 1500) (hq : ∀ q ∈ qs, TokAt T q) (hr : Rising qs T.size) :
    ∀ (post pre : List (S31 × ByteArray)), qs = pre ++ post → ∃ c, c ≤ post.length * 20000 ∧ ∀ k, laws_FnWords.l0 (k + c) T (qs.map (·.1) ++ [(⟨4, (⟨#[]⟩ : ByteArray), 0, (T.size : Int)⟩ : S31)]) (Wd pre) (pre.length : Int) = laws_FnWords.l0 k T (qs.map (·.1) ++ [(⟨4, (⟨#[]⟩ : ByteArray), 0, (T.size : Int)⟩ : S31)]) (Wd qs) (qs.length : Int) := by
  intro post
  induction post with
  | nil =>
    intro pre h
    rw [List.append_nil] at h
    subst h
    exact ⟨0, by omega, fun k => rfl⟩
  | cons q post ih =>
    intro pre h
    obtain ⟨c, c1, c2⟩ := ih (pre ++ [q]) (by rw [h]; simp)
    have hqm : q ∈ qs := by rw [h]; simp
    have hlen : pre.length + (post.length + 1) = qs.length := by rw [h]; simp
    have hsz : ∀ p ∈ pre, p.2.size ≤ 6000 := fun p hp => by
      obtain ⟨_, _, _, _, _, hh, _⟩ := tokat_w (hq p (by rw [h]; exact List.mem_append_left _ hp)); omega
    have hWl := Wd_len pre hsz
    generalize hL : qs.map (·.1) ++ [(⟨4, (⟨#[]⟩ : ByteArray), 0, (T.size : Int)⟩ : S31)] = L at c2 ⊢
    have hLl : L.length = qs.length + 1 := by rw [← hL]; simp
    have eL : L = pre.map (·.1) ++ q.1 :: (post.map (·.1) ++ [(⟨4, (⟨#[]⟩ : ByteArray), 0, (T.size : Int)⟩ : S31)]) := by rw [← hL, h]; simp
    have r0 : rd_T31 L (pre.length : Int) = q.1 := by
      have := rd_app (pre.map (·.1)) (post.map (·.1) ++ [(⟨4, (⟨#[]⟩ : ByteArray), 0, (T.size : Int)⟩ : S31)]) q.1
      rw [← eL, List.length_map] at this; exact this
    have r1 : 0 ≤ (rd_T31 L ((pre.length + 1 : Nat) : Int)).f3 ∧ (rd_T31 L ((pre.length + 1 : Nat) : Int)).f3 ≤ (T.size : Int) := by
      cases post with
      | nil =>
        have := rd_app ((pre ++ [q]).map (·.1)) [] (⟨4, (⟨#[]⟩ : ByteArray), 0, (T.size : Int)⟩ : S31)
        rw [List.length_map, List.length_append, List.length_singleton, show (pre ++ [q]).map (·.1) ++ [(⟨4, (⟨#[]⟩ : ByteArray), 0, (T.size : Int)⟩ : S31)] = L by rw [eL]; simp] at this
        rw [this]
        exact ⟨by simp, by simp⟩
      | cons p post =>
        have := rd_app ((pre ++ [q]).map (·.1)) (post.map (·.1) ++ [(⟨4, (⟨#[]⟩ : ByteArray), 0, (T.size : Int)⟩ : S31)]) p.1
        rw [List.length_map, List.length_append, List.length_singleton, show (pre ++ [q]).map (·.1) ++ p.1 :: (post.map (·.1) ++ [(⟨4, (⟨#[]⟩ : ByteArray), 0, (T.size : Int)⟩ : S31)]) = L by rw [eL]; simp] at this
        rw [this]
        have hp : p ∈ qs := by rw [h]; simp
        obtain ⟨x, e, kd, n, a1, a2, a3, a4, _⟩ := hq p hp
        rw [a4]
        exact ⟨by show (0 : Int) ≤ (x : Int); omega, by show (x : Int) ≤ (T.size : Int); omega⟩
    have rp : ∀ p pre', pre = pre' ++ [p] → (rd_T31 L ((pre.length : Int) - 1)).f3 < q.1.f3 := by
      intro p pre' hp
      have := rd_app (pre'.map (·.1)) (q.1 :: (post.map (·.1) ++ [(⟨4, (⟨#[]⟩ : ByteArray), 0, (T.size : Int)⟩ : S31)])) p.1
      rw [List.length_map, show pre'.map (·.1) ++ p.1 :: q.1 :: (post.map (·.1) ++ [(⟨4, (⟨#[]⟩ : ByteArray), 0, (T.size : Int)⟩ : S31)]) = L by rw [eL, hp]; simp] at this
      rw [show (pre.length : Int) - 1 = (pre'.length : Int) by rw [hp, List.length_append, List.length_singleton]; omega, this]
      have hpw := hr.2
      rw [h, hp] at hpw
      exact (List.pairwise_append.1 hpw).2.2 p (by simp) q (by simp)
    obtain ⟨x, e, kd, n, a1, a2, a3, a4, a5, a6, a7⟩ := hq q hqm
    obtain ⟨y, hy⟩ : ∃ y : Nat, (rd_T31 L ((pre.length + 1 : Nat) : Int)).f3 = (y : Int) := ⟨(rd_T31 L ((pre.length + 1 : Nat) : Int)).f3.toNat, by omega⟩
    have esz : q.2.size = e - x := by rw [a3, ByteArray.size_extract]; omega
    -- the three steps
    have step1 : ∀ k, laws_FnWords.l0 (k + 2) T L (Wd pre) (pre.length : Int) = laws_FnWords.l1 k T L (Wd pre) (pre.length : Int) (y : Int) kd (if kd = 2 then (⟨#[]⟩ : ByteArray) else T.extract x e) n (x : Int) := by
      intro k
      have hj : laws_FnWords.j2 (k + 1) T L (Wd pre) (pre.length : Int) false kd (if kd = 2 then (⟨#[]⟩ : ByteArray) else T.extract x e) n (x : Int) = laws_FnWords.l1 k T L (Wd pre) (pre.length : Int) (y : Int) kd (if kd = 2 then (⟨#[]⟩ : ByteArray) else T.extract x e) n (x : Int) := by
        simp only [laws_FnWords.j2, Bool.false_eq_true, if_false]
        rw [w64 (by omega) (by omega), if_pos (by omega), if_pos (by omega), show (pre.length : Int) + 1 = ((pre.length + 1 : Nat) : Int) by omega, hy]
      rw [show k + 2 = (k + 1) + 1 by omega]
      simp only [laws_FnWords.l0]
      rw [w64 (n := (pre.length : Int) + 1) (by omega) (by omega), if_pos (by omega), if_pos (by omega), if_pos (by omega), r0, a4]
      simp only []
      rw [if_neg (by omega), if_neg (by omega)]
      by_cases hp0 : (pre.length : Int) > 0
      · have hpe : ∃ p pre', pre = pre' ++ [p] := by
          have hne : pre ≠ [] := by intro hh; rw [hh] at hp0; simp at hp0
          exact ⟨pre.getLast hne, pre.dropLast, (List.dropLast_concat_getLast hne).symm⟩
        obtain ⟨p, pre', hpp⟩ := hpe
        have hlt := rp p pre' hpp
        rw [a4] at hlt
        rw [if_pos hp0, w64 (n := (pre.length : Int) - 1) (by omega) (by omega), if_pos (by omega), if_pos (by omega), decide_eq_false (by simp only [] at hlt ⊢; omega)]
        exact hj
      · rw [if_neg hp0]
        exact hj
    obtain ⟨cb, b1, b2⟩ := back_run T (by omega) L (Wd pre) (pre.length : Int) kd (if kd = 2 then (⟨#[]⟩ : ByteArray) else T.extract x e) n (x : Int) (by omega) y (by omega)
    have hWs : Wd (pre ++ [q]) = Wd pre ++ bytesOf (T.extract x e) ++ [32] := by rw [Wd_snoc, a3]
    have hpl : ((pre ++ [q]).length : Int) = (pre.length : Int) + 1 := by rw [List.length_append, List.length_singleton]; omega
    rw [hWs, hpl] at c2
    have step3 : ∃ c3, c3 ≤ 6003 ∧ ∀ k, laws_FnWords.j4 (k + c3) T L (Wd pre) (pre.length : Int) kd (if kd = 2 then (⟨#[]⟩ : ByteArray) else T.extract x e) n (x : Int) = laws_FnWords.l0 k T L (Wd pre ++ bytesOf (T.extract x e) ++ [32]) ((pre.length : Int) + 1) := by
      by_cases hk2 : kd = 2
      · obtain ⟨g1, g2⟩ := a6 hk2
        refine ⟨(e - x) + 1 + 1, by omega, fun k => ?_⟩
        rw [show k + ((e - x) + 1 + 1) = (k + ((e - x) + 1)) + 1 by omega]
        simp only [laws_FnWords.j4]
        rw [if_pos hk2]
        exact fig_run T (by omega) L (Wd pre) (by omega) (pre.length : Int) kd _ n x e a2 g2 (by omega) (e - x) x rfl (by omega) (by omega) g1 k
      · refine ⟨1, by omega, fun k => ?_⟩
        simp only [laws_FnWords.j4]
        rw [if_neg hk2, if_neg hk2]
        have es2 : (T.extract x e).size = e - x := by rw [ByteArray.size_extract]; omega
        rw [if_pos (by omega), Option.bind_some, if_pos (by rw [List.length_append, bytesOf_length]; omega), w64 (by omega) (by omega)]
    obtain ⟨c3, d1, d2⟩ := step3
    refine ⟨c + c3 + cb + 2, by rw [List.length_cons]; omega, fun k => ?_⟩
    rw [show k + (c + c3 + cb + 2) = (k + (c + c3 + cb)) + 2 by omega, step1, show k + (c + c3 + cb) = (k + (c + c3)) + cb by omega, b2, show k + (c + c3) = (k + c) + c3 by omega, d2, c2]
theorem pass_stop (s : ByteArray) (hs : s.size ≤ 1000000) (x : Nat) (h : x < s.size → isW (bt s (x : Int)) = true) (hx : x ≤ s.size) (k : Nat) (hk : 2 ≤ k) : impl_passOver.l0 k s (x : Int) = some (x : Int) := by
  obtain ⟨k, rfl⟩ : ∃ m, k = m + 2 := ⟨k - 2, by omega⟩
  by_cases hlt : x < s.size
  · obtain ⟨n1, n2, n3, n4⟩ := isW_ne (h hlt)
    have hx0 : bt (s.extract x s.size) 0 = bt s (x : Int) := by
      have := bt_ext s x 0 (by omega)
      rw [Nat.add_zero] at this; exact this
    have hp : stringslite_HasPrefix.f (s.extract x s.size) (⟨#[47, 47]⟩ : ByteArray) = some false := by
      rw [prefix_bt]
      refine congrArg some (decide_eq_false ?_)
      rintro ⟨e1, e2, e3⟩
      rw [hx0] at e2
      exact n4 e2
    rw [show k + 2 = (k + 1) + 1 by omega]
    simp only [impl_passOver.l0, impl_passOver.j1, strings_HasPrefix.f]
    rw [if_pos (by omega), if_pos (by omega), if_neg n1, if_neg n2, show (bt s (x : Int) == 10) = false from beq_eq_false_iff_ne.mpr n3, if_neg Bool.false_ne_true, if_pos (by omega), if_pos (by omega), Int.toNat_natCast, hp, Option.bind_some, Option.bind_some, if_neg Bool.false_ne_true]
  · rw [show k + 2 = (k + 1) + 1 by omega]
    simp only [impl_passOver.l0]
    rw [if_neg (by omega)]
theorem pass_blank (s : ByteArray) (hs : s.size ≤ 1000000) (x : Nat) (h : bt s (x : Int) = 32) (hx : x < s.size) (k : Nat) : impl_passOver.l0 (k + 2) s (x : Int) = impl_passOver.l0 k s ((x + 1 : Nat) : Int) := by
  rw [show k + 2 = (k + 1) + 1 by omega]
  simp only [impl_passOver.l0, impl_passOver.j1, if_true]
  rw [if_pos (by omega), if_pos (by omega), if_pos h, w64 (by omega) (by omega)]
  rfl
def st31 (t : S31) : Int × ByteArray × Int := (t.f0, t.f1, t.f2)
theorem relex (s : ByteArray) (hs : s.size ≤ 6000) : ∀ (post : List (S31 × ByteArray)) (x : Nat) (acc : List S31), s.size = x + (Wd post).length → (∀ j (h : j < (Wd post).length), bt s ((x + j : Nat) : Int) = (Wd post)[j]) → acc.length + post.length ≤ 1500 → (∀ q ∈ post, ∃ T, TokAt T q) →
    ∃ ts : List S31, ts.map st31 = post.map (fun q => st31 q.1) ∧ ∀ k, 2 * s.size + 30 + post.length ≤ k → impl_Lex.l0 k s acc (x : Int) = some (acc ++ ts ++ [(⟨4, (⟨#[]⟩ : ByteArray), 0, (s.size : Int)⟩ : S31)], 0, 0) := by
  intro post
  induction post with
  | nil =>
    intro x acc hsz hb hl hq
    simp only [Wd, List.flatMap_nil, List.length_nil] at hsz
    refine ⟨[], rfl, fun k hk => ?_⟩
    obtain ⟨k, rfl⟩ : ∃ m, k = m + 1 := ⟨k - 1, by omega⟩
    simp only [impl_Lex.l0, List.append_nil]
    rw [if_neg (by omega), if_pos (by simp only [List.length_nil] at hl; omega)]
  | cons q post ih =>
    intro x acc hsz hb hl hq
    obtain ⟨T, hT⟩ := hq q List.mem_cons_self
    obtain ⟨kd, n, x0, w1, w2, w3, w4, w5⟩ := tokat_w hT
    have hWl : (Wd (q :: post)).length = q.2.size + 1 + (Wd post).length := by rw [Wd_cons, List.length_append, List.length_append, bytesOf_length, List.length_singleton]
    rw [List.length_cons] at hl
    have hget1 : ∀ j, j < q.2.size → bt s ((x + j : Nat) : Int) = bt q.2 ((j : Nat) : Int) := fun j hj => by
      rw [hb j (by omega)]
      have hj2 : j < (bytesOf q.2).length := by rw [bytesOf_length]; exact hj
      simp only [Wd_cons]
      rw [List.getElem_append_left (by rw [List.length_append]; omega), List.getElem_append_left hj2]
      exact bytesOf_get q.2 j hj hj2
    have hget2 : bt s ((x + q.2.size : Nat) : Int) = 32 := by
      rw [hb q.2.size (by omega)]
      simp only [Wd_cons]
      rw [List.getElem_append_left (by rw [List.length_append, bytesOf_length, List.length_singleton]; omega), List.getElem_append_right (by rw [bytesOf_length]; exact Nat.le_refl _)]
      simp
    have hget3 : ∀ j (h : j < (Wd post).length), bt s ((x + q.2.size + 1 + j : Nat) : Int) = (Wd post)[j] := fun j h => by
      have := hb (q.2.size + 1 + j) (by omega)
      rw [show x + (q.2.size + 1 + j) = x + q.2.size + 1 + j by omega] at this
      rw [this]
      simp only [Wd_cons]
      rw [List.getElem_append_right (by rw [List.length_append, bytesOf_length, List.length_singleton]; omega)]
      congr 1
      rw [List.length_append, bytesOf_length, List.length_singleton]; omega
    have hnext : x + q.2.size + 1 < s.size → isW (bt s ((x + q.2.size + 1 : Nat) : Int)) = true := by
      intro hlt
      cases post with
      | nil => have : (Wd ([] : List (S31 × ByteArray))).length = 0 := rfl; omega
      | cons p post =>
        obtain ⟨T2, hT2⟩ := hq p (by simp)
        obtain ⟨_, _, _, _, v2, _, v4, _⟩ := tokat_w hT2
        have hp2 : 0 < (Wd (p :: post)).length := by rw [Wd_cons, List.length_append, List.length_append, List.length_singleton]; omega
        have := hget3 0 hp2
        rw [Nat.add_zero] at this
        rw [this]
        have hj2 : 0 < (bytesOf p.2).length := by rw [bytesOf_length]; exact v2
        simp only [Wd_cons]
        rw [List.getElem_append_left (by rw [List.length_append]; omega), List.getElem_append_left hj2, bytesOf_get p.2 0 v2 hj2]
        exact v4
    obtain ⟨ts, t1, t2⟩ := ih (x + q.2.size + 1) (acc ++ [(⟨kd, if kd = 2 then (⟨#[]⟩ : ByteArray) else q.2, n, (x : Int)⟩ : S31)]) (by omega) hget3 (by rw [List.length_append, List.length_singleton]; omega) (fun p hp => hq p (List.mem_cons_of_mem _ hp))
    refine ⟨(⟨kd, if kd = 2 then (⟨#[]⟩ : ByteArray) else q.2, n, (x : Int)⟩ : S31) :: ts, ?_, fun k hk => ?_⟩
    · rw [List.map_cons, List.map_cons, t1, w1]; rfl
    · rw [List.length_cons] at hk
      obtain ⟨k, rfl⟩ : ∃ m, k = m + 1 := ⟨k - 1, by omega⟩
      have htok := w5 s x (by omega) (by omega) hget1 hget2 k (by omega)
      simp only [impl_Lex.l0]
      rw [if_pos (by omega), htok, Option.bind_some, if_pos rfl, if_neg (by omega)]
      simp only [impl_passOver.f]
      have hpass : impl_passOver.l0 k s ((x : Int) + (q.2.size : Int)) = some ((x + q.2.size + 1 : Nat) : Int) := by
        obtain ⟨k, rfl⟩ : ∃ m, k = m + 2 := ⟨k - 2, by omega⟩
        rw [show (x : Int) + (q.2.size : Int) = ((x + q.2.size : Nat) : Int) by omega, pass_blank s (by omega) (x + q.2.size) hget2 (by omega) k]
        exact pass_stop s (by omega) (x + q.2.size + 1) hnext (by omega) k (by omega)
      rw [w64 (by omega) (by omega), hpass, Option.bind_some]
      have := t2 k (by omega)
      rw [show acc ++ (⟨kd, if kd = 2 then (⟨#[]⟩ : ByteArray) else q.2, n, (x : Int)⟩ : S31) :: ts = acc ++ [(⟨kd, if kd = 2 then (⟨#[]⟩ : ByteArray) else q.2, n, (x : Int)⟩ : S31)] ++ ts by simp]
      by_cases hk2 : kd = 2
      · simp only [if_pos hk2] at this ⊢; rw [if_pos (by omega)]; exact this
      · simp only [if_neg hk2] at this ⊢; rw [if_pos (by omega)]; exact this
theorem same_run (L M : List S31) (h : M.map st31 = L.map st31) (hl : L.length ≤ 100000) : ∀ (d i : Nat), L.length - i = d → i ≤ L.length → ∀ k, d + 1 ≤ k → laws_FnWords.l3 k L M (i : Int) = some true := by
  have hlen : M.length = L.length := by have := congrArg List.length h; simpa using this
  have hst : ∀ i : Nat, st31 (rd_T31 M (i : Int)) = st31 (rd_T31 L (i : Int)) := by
    intro i
    unfold rd_T31
    rw [Int.toNat_natCast, List.getD_eq_getElem?_getD, List.getD_eq_getElem?_getD]
    have := congrArg (fun l => l[i]?) h
    simp only [List.getElem?_map] at this
    cases hM : M[i]? <;> cases hLi : L[i]? <;> rw [hM, hLi] at this <;> simp_all
  intro d
  induction d with
  | zero =>
    intro i hd hi k hk
    obtain ⟨k, rfl⟩ : ∃ m, k = m + 1 := ⟨k - 1, by omega⟩
    simp only [laws_FnWords.l3]
    rw [if_neg (by omega)]
  | succ d ih =>
    intro i hd hi k hk
    obtain ⟨k, rfl⟩ : ∃ m, k = m + 1 := ⟨k - 1, by omega⟩
    have hs := hst i
    unfold st31 at hs
    rw [Prod.mk.injEq, Prod.mk.injEq] at hs
    obtain ⟨s1, s2, s3⟩ := hs
    simp only [laws_FnWords.l3]
    rw [if_pos (by omega), if_pos (by omega), if_pos (by omega), if_pos s1, if_pos (by rw [s2]), if_pos s3, w64 (by omega) (by omega), show (i : Int) + 1 = ((i + 1 : Nat) : Int) by omega]
    exact ih (i + 1) (by omega) (by omega) k (by omega)

theorem FnWords : laws_FnWords.Pure := by
  intro l0 _ hl2 _
  have hlen : l0.length ≤ 140737488355328 := by omega
  have hK : ∃ K, K = l0.length + 40000000 := ⟨_, rfl⟩
  obtain ⟨K, hK⟩ := hK
  refine ⟨K + 1, ?_⟩
  unfold laws_FnWords.f laws_big.f
  rw [Option.bind_some]
  by_cases hb : (l0.length : Int) > 1048576
  · rw [if_pos (decide_eq_true hb)]
  rw [if_neg (by rw [decide_eq_false hb]; exact Bool.false_ne_true)]
  obtain ⟨T, hT⟩ := drawlex_some l0 hlen (K + 1) (by omega)
  obtain ⟨⟨L, c, p⟩, h1, h2, h3⟩ := lexF T
  rw [hT, Option.bind_some, h1 _ (by omega), Option.bind_some, h2 _ (by omega), Option.bind_some]
  simp only [] at h3 ⊢
  rw [if_neg (by simp), show ((L.length : Int) != (L.length : Int)) = false by simp]
  simp only [laws_FnWords.j0, Bool.false_eq_true, if_false]
  rcases h3 with ⟨hc, hL⟩ | ⟨hs, qs, hr, hn, hq, hR⟩
  · rw [if_neg hc, hL]; rfl
  rw [Prod.mk.injEq, Prod.mk.injEq] at hr
  obtain ⟨rfl, rfl, rfl⟩ := hr
  rw [if_pos rfl]
  obtain ⟨cc, c1, c2⟩ := law_loop T hs qs hn hq hR qs [] rfl
  have hW := Wd_len qs (fun q hqm => by obtain ⟨_, _, _, _, _, hh, _⟩ := tokat_w (hq q hqm); omega)
  obtain ⟨k, hk⟩ : ∃ k, K = (k + 1) + cc := ⟨K - cc - 1, by omega⟩
  have := c2 (k + 1)
  rw [← hk] at this
  refine Eq.trans this ?_
  simp only [laws_FnWords.l0]
  rw [w64 (by omega) (by omega), if_neg (by rw [List.length_append, List.length_map, List.length_singleton]; omega)]
  have hsz : (strOfNums (Wd qs)).size = (Wd qs).length := size_strN _
  by_cases h6 : ((strOfNums (Wd qs)).size : Int) > 6000
  · rw [show impl_Lex.f k (strOfNums (Wd qs)) = some ([], 14, 0) by unfold impl_Lex.f; rw [if_pos h6], Option.bind_some]
    rfl
  obtain ⟨ts, t1, t2⟩ := relex (strOfNums (Wd qs)) (by omega) qs 0 [] (by rw [hsz]; omega) (fun j h => by rw [Nat.zero_add]; exact bt_strN _ (Wd_range qs) j h) (by simpa using hn) (fun q hqm => ⟨T, hq q hqm⟩)
  have hpass : impl_passOver.l0 k (strOfNums (Wd qs)) 0 = some 0 := by
    refine pass_stop (strOfNums (Wd qs)) (by omega) 0 (fun hlt => ?_) (by omega) k (by omega)
    cases qs with
    | nil => rw [hsz] at hlt; exact absurd hlt (Nat.lt_irrefl 0)
    | cons q post =>
      obtain ⟨_, _, _, _, v2, _, v4, _⟩ := tokat_w (hq q List.mem_cons_self)
      have hp2 : 0 < (Wd (q :: post)).length := by rw [← hsz]; exact hlt
      rw [bt_strN _ (Wd_range _) 0 hp2]
      have hj2 : 0 < (bytesOf q.2).length := by rw [bytesOf_length]; exact v2
      simp only [Wd_cons]
      rw [List.getElem_append_left (by rw [List.length_append]; omega), List.getElem_append_left hj2, bytesOf_get q.2 0 v2 hj2]
      exact v4
  have hlex : impl_Lex.f k (strOfNums (Wd qs)) = some (ts ++ [(⟨4, (⟨#[]⟩ : ByteArray), 0, ((strOfNums (Wd qs)).size : Int)⟩ : S31)], 0, 0) := by
    unfold impl_Lex.f
    rw [if_neg h6]
    simp only [impl_passOver.f]
    rw [hpass, Option.bind_some]
    exact t2 k (by omega)
  have htl : ts.length = qs.length := by have := congrArg List.length t1; simpa using this
  rw [hlex, Option.bind_some]
  simp only []
  rw [if_pos trivial, if_pos (by simp [htl])]
  exact same_run _ _ (by rw [List.map_append, List.map_append, t1, List.map_map]; rfl) (by rw [List.length_append, List.length_map, List.length_singleton]; omega) (qs.length + 1) 0 (by rw [List.length_append, List.length_map, List.length_singleton]; omega) (by omega) k (by omega)

end Go.Proofs.Ytnchbgiojdijbaa.Pure
