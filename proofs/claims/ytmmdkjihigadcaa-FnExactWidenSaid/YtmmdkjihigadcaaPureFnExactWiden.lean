/- Widen: for all bits both tell the same. No condition. -/
import Derived.Test.YtmmdkjihigadcaaPFnExactWidenx1
import Derived.Test.YtmmdkjihigadcaaLib
set_option linter.unusedSimpArgs false
set_option linter.unusedVariables false
namespace Go.Proofs.Ytmmdkjihigadcaa.Pure
open Go Go.RowKit Go.Proofs.Ytmmdkjihigadcaa.PFnExactWiden Go.Proofs.YtmmdkjihigadcaaW.PrintWords Go.Proofs.YtmmdkjihigadcaaW.PrintLast Go.Proofs.YtmmdkjihigadcaaW.PrintMore Go.Proofs.Ytmmdkjihigadcaa.Lib

/-- The power and the rest of a float's bits. -/
def fpow (x w : Int) : Int := if w = 32 then x / 8388608 % 256 else x / 4503599627370496 % 2048
def frest (x w : Int) : Int := if w = 32 then x % 8388608 else x % 4503599627370496
def ftop (w : Int) : Int := if w = 32 then 255 else 2047
def fis (x w : Int) : Bool := decide (w = 32 ∧ 0 ≤ x ∧ x ≤ 4294967295 ∨ w = 64)
def fclass (x w : Int) : Int := if fis x w = true then (if fpow x w = 0 then (if frest x w = 0 then 1 else 2) else if fpow x w = ftop w then (if frest x w = 0 then 4 else 5) else 3) else 0
theorem a255 (x : Int) : Go.bits .and .i64 x 255 = x % 256 := and_i64 8 (by decide) x
theorem a2047 (x : Int) : Go.bits .and .i64 x 2047 = x % 2048 := and_i64 11 (by decide) x
theorem a23 (x : Int) : Go.bits .and .i64 x 8388607 = x % 8388608 := and_i64 23 (by decide) x
theorem a52 (x : Int) : Go.bits .and .i64 x 4503599627370495 = x % 4503599627370496 := and_i64 52 (by decide) x
theorem u2047 (x : Int) (h0 : 0 ≤ x) (h1 : x < 18446744073709551616) : Go.bits .and .u64 x 2047 = x % 2048 := and_u64 11 (by decide) x h0 h1
theorem u52 (x : Int) (h0 : 0 ≤ x) (h1 : x < 18446744073709551616) : Go.bits .and .u64 x 4503599627370495 = x % 4503599627370496 := and_u64 52 (by decide) x h0 h1

theorem spec_parts (k : Nat) (x w : Int) (hx : -9223372036854775808 ≤ x ∧ x ≤ 9223372036854775807) :
    spec_l2Parts.f (k + 1) x w = some (if fis x w = true then (if w = 32 then x / 2147483648 else if x < 0 then 1 else 0, fpow x w, frest x w, ftop w, true) else (0, 0, 0, 0, false)) := by
  unfold spec_l2Parts.f spec_l1In.f fis fpow frest ftop
  by_cases h32 : w = 32
  · subst h32
    rw [if_pos rfl]
    by_cases h0 : x ≥ 0
    · rw [if_pos h0]
      simp only [Option.bind_some, spec_l2Parts.j0]
      by_cases h1 : x ≤ 4294967295
      · rw [if_pos (by simpa using h1), a255, a23, if_pos (by simp; omega)]; simp
      · rw [if_neg (by simpa using h1), if_neg (by decide), if_neg (by simp; omega)]
    · rw [if_neg h0]
      simp only [Option.bind_some, spec_l2Parts.j0]
      rw [if_neg (by decide), if_neg (by decide), if_neg (by simp; omega)]
  · rw [if_neg h32]
    simp only [spec_l2Parts.j0]
    by_cases h64 : w = 64
    · subst h64
      rw [if_neg (by decide), if_pos rfl, if_pos (by simp), wu64, u2047 _ (by omega) (by omega), u52 _ (by omega) (by omega)]
      simp only [show ¬ (64 : Int) = 32 by decide, if_false]
      refine congrArg some ?_
      refine Prod.ext ?_ (Prod.ext ?_ (Prod.ext ?_ rfl))
      · simp only
        split
        · rw [w64 (by omega) (by omega)]; omega
        · rw [w64 (by omega) (by omega)]; omega
      · simp only; rw [w64 (by omega) (by omega)]; omega
      · simp only; rw [w64 (by omega) (by omega)]; omega
    · rw [if_neg (by decide), if_neg h64, if_neg (by simp; omega)]

open Go.Proofs.Ytmmdkjihigadcaa.FloatW
/-- Widen, as both tell it. -/
def widen (y : Int) : Int × Bool := if 0 ≤ y ∧ y ≤ 4294967295 then (impl_Widen_w y, true) else (0, false)
theorem impl_widen (k : Nat) (y : Int) : impl_Widen.f (k + 1) y = some (widen y) := by
  unfold widen
  by_cases h : 0 ≤ y ∧ y ≤ 4294967295
  · rw [if_pos h]; exact impl_Widen_wide k y h.1 h.2
  · rw [if_neg h]; exact impl_Widen_not k y h
theorem widen_w (y : Int) (h : 0 ≤ y ∧ y ≤ 4294967295) : impl_Widen_w y = ((wm (y % 2147483648).toNat : Nat) : Int) - y / 2147483648 * 9223372036854775808 := by
  unfold impl_Widen_w
  by_cases hy : 2147483648 ≤ y
  · rw [if_pos hy, show (y - 2147483648).toNat = (y % 2147483648).toNat by omega]; omega
  · rw [if_neg hy, show y.toNat = (y % 2147483648).toNat by omega]; omega

theorem high64 (s : Int) (hs : s = 0 ∨ s = 1) : IntKind.u64.wrap (IntKind.u64.wrap s * 9223372036854775808) = s * 9223372036854775808 := by
  rcases hs with rfl | rfl <;> rw [wu64, wu64] <;> decide
/-- Sign, power and rest put together in 64 bits. -/
theorem pack64 (s p r : Int) (hs : s = 0 ∨ s = 1) (hp : 0 ≤ p ∧ p < 2048) (hr : 0 ≤ r ∧ r < 4503599627370496) :
    wrap64 (Go.bits .or .u64 (Go.bits .or .u64 (s * 9223372036854775808) (p * 4503599627370496)) r) = p * 4503599627370496 + r - s * 9223372036854775808 := by
  have h1 : Go.bits .or .u64 (s * 9223372036854775808) (p * 4503599627370496) = p * 4503599627370496 + s * 9223372036854775808 := by
    rw [bits_or_comm, or_u64 63 _ _ (by omega) (by omega) (by omega) (by omega) (by omega) (by omega)]
  have h2 : Go.bits .or .u64 (p * 4503599627370496 + s * 9223372036854775808) r = r + (p * 4503599627370496 + s * 9223372036854775808) := by
    rw [bits_or_comm, or_u64 52 _ _ (by omega) (by omega) (by omega) (by omega) (by omega) (by omega)]
  rw [h1, h2]
  unfold wrap64
  omega
theorem double_log (n : Nat) (h : n ≠ 0) : (2 * n).log2 = n.log2 + 1 := by
  obtain ⟨a, b⟩ := log2_bounds h
  refine log2_eq ?_ ?_
  · rw [Nat.pow_succ]; omega
  · rw [Nat.pow_succ]; omega
/-- The loop doubles until the 24th bit is reached. -/
theorem spec_widen_l (h : Int) : ∀ (d k n : Nat) (p : Int), n ≠ 0 → n.log2 + d = 23 → (d : Int) - 100 ≤ p → p ≤ 100 → d + 1 ≤ k →
    spec_Widen.l0 k h p (n : Int) = some (wrap64 (Go.bits .or .u64 (Go.bits .or .u64 h ((p - d + 896) * 4503599627370496)) (((n * 2 ^ d : Nat) - 8388608) * 536870912)), true) := by
  intro d
  induction d with
  | zero =>
    intro k n p h0 hl hp0 hp1 hk
    obtain ⟨k, rfl⟩ : ∃ m, k = m + 1 := ⟨k - 1, by omega⟩
    obtain ⟨a, b⟩ := log2_bounds h0
    rw [show n.log2 = 23 by omega] at a b
    have a' : 8388608 ≤ n := a
    have b' : n < 16777216 := b
    simp only [spec_Widen.l0]
    rw [if_neg (by omega), w64 (n := p - 127) (by omega) (by omega), w64 (n := p - 127 + 1023) (by omega) (by omega), w64 (n := (n : Int) - 8388608) (by omega) (by omega), wu64_id (n := p - 127 + 1023) (by omega) (by omega), wu64_id (n := (n : Int) - 8388608) (by omega) (by omega), wu64_id (n := (p - 127 + 1023) * 4503599627370496) (by omega) (by omega), wu64_id (n := ((n : Int) - 8388608) * 536870912) (by omega) (by omega), show p - 127 + 1023 = p - ((0 : Nat) : Int) + 896 by omega, Nat.pow_zero, Nat.mul_one]
  | succ d ih =>
    intro k n p h0 hl hp0 hp1 hk
    obtain ⟨k, rfl⟩ : ∃ m, k = m + 1 := ⟨k - 1, by omega⟩
    have hn : n < 8388608 := by
      have b := (log2_bounds h0).2
      have : (2 : Nat) ^ (n.log2 + 1) ≤ 2 ^ 23 := Nat.pow_le_pow_right (by decide) (by omega)
      omega
    simp only [spec_Widen.l0]
    rw [if_pos (by omega), w64 (n := p - 1) (by omega) (by omega), w64 (n := (n : Int) * 2) (by omega) (by omega), show (n : Int) * 2 = ((2 * n : Nat) : Int) by omega, ih k (2 * n) (p - 1) (by omega) (by rw [double_log n h0]; omega) (by omega) (by omega) (by omega), show p - 1 - (d : Int) + 896 = p - ((d + 1 : Nat) : Int) + 896 by omega, show 2 * n * 2 ^ d = n * 2 ^ (d + 1) by rw [Nat.pow_succ, Nat.mul_comm 2 n, Nat.mul_assoc, Nat.mul_comm 2]]
theorem spec_widen (k : Nat) (y : Int) (hy : -9223372036854775808 ≤ y ∧ y ≤ 9223372036854775807) : spec_Widen.f (k + 30) y = some (widen y) := by
  unfold spec_Widen.f
  rw [spec_parts (k + 29) y 32 hy]
  by_cases h : 0 ≤ y ∧ y ≤ 4294967295
  · have hf : fis y 32 = true := decide_eq_true (Or.inl ⟨rfl, h⟩)
    rw [if_pos hf]
    have hw : widen y = (impl_Widen_w y, true) := if_pos h
    rw [hw, widen_w y h]
    have hs : y / 2147483648 = 0 ∨ y / 2147483648 = 1 := by omega
    have e1 : fpow y 32 = y / 8388608 % 256 := rfl
    have e2 : frest y 32 = y % 8388608 := rfl
    simp only [Option.bind_some, if_true, e1, e2, high64 _ hs]
    generalize hse : y / 2147483648 = s at hs
    generalize hpe : y / 8388608 % 256 = p
    generalize hre : y % 8388608 = r
    have hne : (y % 2147483648).toNat = (p * 8388608 + r).toNat := by omega
    rw [hne]
    have hp0 : 0 ≤ p ∧ p < 256 := by omega
    have hr0 : 0 ≤ r ∧ r < 8388608 := by omega
    clear hne hse hpe hre e1 e2 hw hf h hy
    by_cases h5 : p = 255
    · subst h5
      rw [if_pos rfl, wu64_id (n := r) (by omega) (by omega), wu64_id (n := r * 536870912) (by omega) (by omega), show (9218868437227405312 : Int) = 2047 * 4503599627370496 by decide, pack64 s 2047 _ hs (by omega) (by omega)]
      have : wm (255 * 8388608 + r).toNat = (255 * 8388608 + r).toNat * 536870912 + 1792 * 4503599627370496 := by
        unfold wm; rw [if_neg (by omega), if_neg (by omega), if_neg (by omega)]
      rw [this]
      refine congrArg some (Prod.ext ?_ rfl)
      simp only
      omega
    · rw [if_neg h5]
      by_cases hz : p = 0
      · subst hz
        rw [if_pos rfl]
        by_cases hrz : r = 0
        · subst hrz
          rw [show ((0 : Int) == 0) = true from rfl]
          simp only [spec_Widen.j0, if_true]
          refine congrArg some (Prod.ext ?_ rfl)
          have : wm (0 * 8388608 + 0 : Int).toNat = 0 := rfl
          simp only
          rw [this]
          unfold wrap64
          omega
        · rw [show (r == 0) = false from beq_eq_false_iff_ne.mpr hrz]
          obtain ⟨n, rfl⟩ : ∃ n : Nat, r = n := ⟨r.toNat, by omega⟩
          have hn0 : n ≠ 0 := by omega
          have hnl : n < 8388608 := by omega
          have hl : n.log2 < 23 := (Nat.log2_lt hn0).2 (by omega)
          obtain ⟨d, hd⟩ : ∃ d, n.log2 + d = 23 := ⟨23 - n.log2, by omega⟩
          simp only [spec_Widen.j0, Bool.false_eq_true, if_false, if_true]
          obtain ⟨q1, q2, q3, q4⟩ := wm_small n hn0 hnl
          have e : n * 2 ^ (52 - n.log2) = n * 2 ^ d * 536870912 := by
            rw [show 52 - n.log2 = d + 29 by omega, Nat.pow_add, Nat.mul_assoc]
          rw [spec_widen_l _ d _ n 1 hn0 hd (by omega) (by omega) (by omega)]
          rw [pack64 s _ _ hs (by omega) (by omega)]
          refine congrArg some (Prod.ext ?_ rfl)
          simp only
          rw [show (0 * 8388608 + (n : Int)).toNat = n by omega]
          omega
      · rw [if_neg hz]
        simp only [spec_Widen.j0, Bool.false_eq_true, if_false]
        rw [if_neg hz, w64 (n := p - 127) (by omega) (by omega), w64 (n := p - 127 + 1023) (by omega) (by omega), wu64_id (n := p - 127 + 1023) (by omega) (by omega), wu64_id (n := (p - 127 + 1023) * 4503599627370496) (by omega) (by omega), wu64_id (n := r) (by omega) (by omega), wu64_id (n := r * 536870912) (by omega) (by omega), pack64 s _ _ hs (by omega) (by omega)]
        have : wm (p * 8388608 + r).toNat = (p * 8388608 + r).toNat * 536870912 + 896 * 4503599627370496 := by
          unfold wm; rw [if_neg (by omega), if_neg (by omega), if_pos (by omega)]
        rw [this]
        refine congrArg some (Prod.ext ?_ rfl)
        simp only
        omega
  · have hf : ¬ fis y 32 = true := by
      intro e
      have := of_decide_eq_true e
      omega
    rw [if_neg hf]
    have hw : widen y = (0, false) := if_neg h
    rw [hw]
    simp only [Option.bind_some, Bool.false_eq_true, if_false]

theorem FnExactWiden : laws_FnExactWiden.Pure := by
  intro a ha
  refine ⟨30, ?_⟩
  unfold laws_FnExactWiden.f
  rw [spec_widen 0 a (wf_i64 ha), impl_widen 29 a]
  simp

end Go.Proofs.Ytmmdkjihigadcaa.Pure
