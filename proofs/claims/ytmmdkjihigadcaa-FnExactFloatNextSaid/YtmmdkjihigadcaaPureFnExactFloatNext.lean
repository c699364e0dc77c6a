/- FloatNext: for all bits and widths both tell the same next float. No condition. -/
import Derived.Test.YtmmdkjihigadcaaPFnExactFloatNextx2
import Derived.Test.YtmmdkjihigadcaaLib
set_option linter.unusedSimpArgs false
set_option linter.unusedVariables false
namespace Go.Proofs.Ytmmdkjihigadcaa.Pure
open Go Go.RowKit Go.Proofs.Ytmmdkjihigadcaa.PFnExactFloatNext Go.Proofs.YtmmdkjihigadcaaW.PrintWords Go.Proofs.YtmmdkjihigadcaaW.PrintLast Go.Proofs.YtmmdkjihigadcaaW.PrintMore Go.Proofs.Ytmmdkjihigadcaa.Lib

/-- The power and the rest of a float's bits. -/
def fpow (x w : Int) : Int := if w = 32 then x / 8388608 % 256 else x / 4503599627370496 % 2048
def frest (x w : Int) : Int := if w = 32 then x % 8388608 else x % 4503599627370496
def ftop (w : Int) : Int := if w = 32 then 255 else 2047
def fis (x w : Int) : Bool := decide (w = 32 ∧ 0 ≤ x ∧ x ≤ 4294967295 ∨ w = 64)
def fclass (x w : Int) : Int := if fis x w = true then (if fpow x w = 0 then (if frest x w = 0 then 1 else 2) else if fpow x w = ftop w then (if frest x w = 0 then 4 else 5) else 3) else 0
theorem a255 (x : Int) : Go.bits .and .i64 x 255 = x % 256 := and_i64 8 (by decide) x
theorem a2047 (x : Int) : Go.bits .and .i64 x 2047 = x % 2048 := and_i64 11 (by decide) x
theorem a23 (x : Int) : Go.bits .and .i64 x 8388607 = x % 8388608 := and_i64 23 (by decide) x
theorem a52 (x : Int) : Go.bits .and .i64 x 4503599627370495 = x % 4503599627370496 := and_i64 52 (by decide) x
theorem u2047 (x : Int) (h0 : 0 ≤ x) (h1 : x < 18446744073709551616) : Go.bits .and .u64 x 2047 = x % 2048 := and_u64 11 (by decide) x h0 h1
theorem u52 (x : Int) (h0 : 0 ≤ x) (h1 : x < 18446744073709551616) : Go.bits .and .u64 x 4503599627370495 = x % 4503599627370496 := and_u64 52 (by decide) x h0 h1
theorem spec_parts (k : Nat) (x w : Int) (hx : -9223372036854775808 ≤ x ∧ x ≤ 9223372036854775807) :
    spec_l2Parts.f (k + 1) x w = some (if fis x w = true then (if w = 32 then x / 2147483648 else if x < 0 then 1 else 0, fpow x w, frest x w, ftop w, true) else (0, 0, 0, 0, false)) := by
  unfold spec_l2Parts.f spec_l1In.f fis fpow frest ftop
  by_cases h32 : w = 32
  · subst h32
    rw [if_pos rfl]
    by_cases h0 : x ≥ 0
    · rw [if_pos h0]
      simp only [Option.bind_some, spec_l2Parts.j0]
      by_cases h1 : x ≤ 4294967295
      · rw [if_pos (by simpa using h1), a255, a23, if_pos (by simp; omega)]; simp
      · rw [if_neg (by simpa using h1), if_neg (by decide), if_neg (by simp; omega)]
    · rw [if_neg h0]
      simp only [Option.bind_some, spec_l2Parts.j0]
      rw [if_neg (by decide), if_neg (by decide), if_neg (by simp; omega)]
  · rw [if_neg h32]
    simp only [spec_l2Parts.j0]
    by_cases h64 : w = 64
    · subst h64
      rw [if_neg (by decide), if_pos rfl, if_pos (by simp), wu64, u2047 _ (by omega) (by omega), u52 _ (by omega) (by omega)]
      simp only [show ¬ (64 : Int) = 32 by decide, if_false]
      refine congrArg some ?_
      refine Prod.ext ?_ (Prod.ext ?_ (Prod.ext ?_ rfl))
      · simp only
        split
        · rw [w64 (by omega) (by omega)]; omega
        · rw [w64 (by omega) (by omega)]; omega
      · simp only; rw [w64 (by omega) (by omega)]; omega
      · simp only; rw [w64 (by omega) (by omega)]; omega
    · rw [if_neg (by decide), if_neg h64, if_neg (by simp; omega)]
theorem impl_parts (k : Nat) (x w : Int) :
    impl_partsOf.f (k + 1) x w = some (if fis x w = true then (if w = 32 then x / 2147483648 == 1 else decide (x < 0), fpow x w, frest x w, ftop w, true) else (false, 0, 0, 0, false)) := by
  unfold impl_partsOf.f impl_within.f fis fpow frest ftop
  by_cases h32 : w = 32
  · subst h32
    rw [if_pos rfl]
    by_cases h0 : x ≥ 0
    · rw [if_pos h0]
      simp only [Option.bind_some, impl_partsOf.j0]
      by_cases h1 : x ≤ 4294967295
      · rw [if_pos (by simpa using h1), a255, a23, if_pos (by simp; omega)]; simp
      · rw [if_neg (by simpa using h1), if_neg (by decide), if_neg (by simp; omega)]
    · rw [if_neg h0]
      simp only [Option.bind_some, impl_partsOf.j0]
      rw [if_neg (by decide), if_neg (by decide), if_neg (by simp; omega)]
  · rw [if_neg h32]
    simp only [impl_partsOf.j0]
    by_cases h64 : w = 64
    · subst h64
      rw [if_neg (by decide), if_pos rfl, if_pos (by simp), a2047, a52]
      simp only [show ¬ (64 : Int) = 32 by decide, if_false]
    · rw [if_neg (by decide), if_neg h64, if_neg (by simp; omega)]
theorem spec_class (k : Nat) (x w : Int) (hx : -9223372036854775808 ≤ x ∧ x ≤ 9223372036854775807) : spec_FloatClass.f (k + 3) x w = some (fclass x w) := by
  unfold spec_FloatClass.f
  rw [spec_parts (k + 2) x w hx]
  unfold fclass
  by_cases h : fis x w = true
  · simp only [h, if_true, Option.bind_some, spec_FloatClass.j0, spec_FloatClass.j1]
    repeat' split
    all_goals simp_all
  · simp only [h, if_false, Option.bind_some, Bool.false_eq_true]
theorem impl_class (k : Nat) (x w : Int) : impl_FloatClass.f (k + 3) x w = some (fclass x w) := by
  unfold impl_FloatClass.f
  rw [impl_parts (k + 2) x w]
  unfold fclass
  by_cases h : fis x w = true
  · simp only [h, if_true, Option.bind_some, impl_FloatClass.j0, impl_FloatClass.j1]
    repeat' split
    all_goals simp_all
  · simp only [h, if_false, Option.bind_some, Bool.false_eq_true]

theorem class_none {x w : Int} (h : ¬ fis x w = true) : fclass x w = 0 := by unfold fclass; rw [if_neg h]
theorem class_some {x w : Int} (h : fis x w = true) : fclass x w ≠ 0 := by
  unfold fclass; rw [if_pos h]
  repeat' split
  all_goals omega
theorem FnExactFloatNext : laws_FnExactFloatNext.Pure := by
  intro a w ha hw
  have hr := wf_i64 ha
  refine ⟨10, ?_⟩
  unfold laws_FnExactFloatNext.f spec_FloatNext.f impl_FloatNext.f
  rw [spec_parts 9 a w hr, spec_class 7 a w hr, impl_class 7 a w]
  by_cases h : fis a w = true
  · have hc := class_some h
    generalize fclass a w = c at hc
    unfold impl_size.f
    simp only [h, if_true, Option.bind_some]
    unfold fis at h
    have h := of_decide_eq_true h
    have hsz : ∃ n s, (if w = 32 then some (Go.bits BinOp.and IntKind.i64 a 2147483647, a / 2147483648 == 1) else some (Go.bits BinOp.and IntKind.i64 a 9223372036854775807, decide (a < 0))) = some (n, s) ∧
        ((if w = 32 then a / 2147483648 else if a < 0 then 1 else 0) = if s = true then 1 else 0) := by
      by_cases h32 : w = 32
      · simp only [if_pos h32]
        refine ⟨_, _, rfl, ?_⟩
        by_cases e : a / 2147483648 = 1
        · simp [e]
        · simp [e]; omega
      · simp only [if_neg h32]
        refine ⟨_, _, rfl, ?_⟩
        by_cases e : a < 0 <;> simp [e]
    obtain ⟨n, s, e1, e2⟩ := hsz
    rw [e1, e2]
    simp only [Option.bind_some, spec_FloatNext.j0, impl_FloatNext.j0]
    by_cases c5 : c = 5
    · subst c5; simp
    · by_cases c4 : c = 4
      · subst c4; cases s <;> simp
      · by_cases c1 : c = 1
        · subst c1; simp
        · cases s <;> simp [c5, c4, c1, hc]
  · rw [class_none h]
    unfold impl_size.f
    simp only [h, if_false, Option.bind_some, Bool.false_eq_true, spec_FloatNext.j0, impl_FloatNext.j0, if_true]
    split <;> simp

end Go.Proofs.Ytmmdkjihigadcaa.Pure
