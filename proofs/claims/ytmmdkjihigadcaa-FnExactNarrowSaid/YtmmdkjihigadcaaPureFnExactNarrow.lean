/- Narrow: for all bits both tell the same. No condition. -/
import Derived.Test.YtmmdkjihigadcaaPFnExactNarrowx2
import Derived.Test.YtmmdkjihigadcaaLib
set_option linter.unusedSimpArgs false
set_option linter.unusedVariables false
namespace Go.Proofs.Ytmmdkjihigadcaa.Pure
open Go Go.RowKit Go.Proofs.Ytmmdkjihigadcaa.PFnExactNarrow Go.Proofs.YtmmdkjihigadcaaW.PrintWords Go.Proofs.YtmmdkjihigadcaaW.PrintLast Go.Proofs.YtmmdkjihigadcaaW.PrintMore Go.Proofs.Ytmmdkjihigadcaa.Lib

/-- The power and the rest of a float's bits. -/
def fpow (x w : Int) : Int := if w = 32 then x / 8388608 % 256 else x / 4503599627370496 % 2048
def frest (x w : Int) : Int := if w = 32 then x % 8388608 else x % 4503599627370496
def ftop (w : Int) : Int := if w = 32 then 255 else 2047
def fis (x w : Int) : Bool := decide (w = 32 ∧ 0 ≤ x ∧ x ≤ 4294967295 ∨ w = 64)
def fclass (x w : Int) : Int := if fis x w = true then (if fpow x w = 0 then (if frest x w = 0 then 1 else 2) else if fpow x w = ftop w then (if frest x w = 0 then 4 else 5) else 3) else 0
theorem a255 (x : Int) : Go.bits .and .i64 x 255 = x % 256 := and_i64 8 (by decide) x
theorem a2047 (x : Int) : Go.bits .and .i64 x 2047 = x % 2048 := and_i64 11 (by decide) x
theorem a23 (x : Int) : Go.bits .and .i64 x 8388607 = x % 8388608 := and_i64 23 (by decide) x
theorem a52 (x : Int) : Go.bits .and .i64 x 4503599627370495 = x % 4503599627370496 := and_i64 52 (by decide) x
theorem u2047 (x : Int) (h0 : 0 ≤ x) (h1 : x < 18446744073709551616) : Go.bits .and .u64 x 2047 = x % 2048 := and_u64 11 (by decide) x h0 h1
theorem u52 (x : Int) (h0 : 0 ≤ x) (h1 : x < 18446744073709551616) : Go.bits .and .u64 x 4503599627370495 = x % 4503599627370496 := and_u64 52 (by decide) x h0 h1

theorem spec_parts (k : Nat) (x w : Int) (hx : -9223372036854775808 ≤ x ∧ x ≤ 9223372036854775807) :
    spec_l2Parts.f (k + 1) x w = some (if fis x w = true then (if w = 32 then x / 2147483648 else if x < 0 then 1 else 0, fpow x w, frest x w, ftop w, true) else (0, 0, 0, 0, false)) := by
  unfold spec_l2Parts.f spec_l1In.f fis fpow frest ftop
  by_cases h32 : w = 32
  · subst h32
    rw [if_pos rfl]
    by_cases h0 : x ≥ 0
    · rw [if_pos h0]
      simp only [Option.bind_some, spec_l2Parts.j0]
      by_cases h1 : x ≤ 4294967295
      · rw [if_pos (by simpa using h1), a255, a23, if_pos (by simp; omega)]; simp
      · rw [if_neg (by simpa using h1), if_neg (by decide), if_neg (by simp; omega)]
    · rw [if_neg h0]
      simp only [Option.bind_some, spec_l2Parts.j0]
      rw [if_neg (by decide), if_neg (by decide), if_neg (by simp; omega)]
  · rw [if_neg h32]
    simp only [spec_l2Parts.j0]
    by_cases h64 : w = 64
    · subst h64
      rw [if_neg (by decide), if_pos rfl, if_pos (by simp), wu64, u2047 _ (by omega) (by omega), u52 _ (by omega) (by omega)]
      simp only [show ¬ (64 : Int) = 32 by decide, if_false]
      refine congrArg some ?_
      refine Prod.ext ?_ (Prod.ext ?_ (Prod.ext ?_ rfl))
      · simp only
        split
        · rw [w64 (by omega) (by omega)]; omega
        · rw [w64 (by omega) (by omega)]; omega
      · simp only; rw [w64 (by omega) (by omega)]; omega
      · simp only; rw [w64 (by omega) (by omega)]; omega
    · rw [if_neg (by decide), if_neg h64, if_neg (by simp; omega)]

theorem impl_parts (k : Nat) (x w : Int) :
    impl_partsOf.f (k + 1) x w = some (if fis x w = true then (if w = 32 then x / 2147483648 == 1 else decide (x < 0), fpow x w, frest x w, ftop w, true) else (false, 0, 0, 0, false)) := by
  unfold impl_partsOf.f impl_within.f fis fpow frest ftop
  by_cases h32 : w = 32
  · subst h32
    rw [if_pos rfl]
    by_cases h0 : x ≥ 0
    · rw [if_pos h0]
      simp only [Option.bind_some, impl_partsOf.j0]
      by_cases h1 : x ≤ 4294967295
      · rw [if_pos (by simpa using h1), a255, a23, if_pos (by simp; omega)]; simp
      · rw [if_neg (by simpa using h1), if_neg (by decide), if_neg (by simp; omega)]
    · rw [if_neg h0]
      simp only [Option.bind_some, impl_partsOf.j0]
      rw [if_neg (by decide), if_neg (by decide), if_neg (by simp; omega)]
  · rw [if_neg h32]
    simp only [impl_partsOf.j0]
    by_cases h64 : w = 64
    · subst h64
      rw [if_neg (by decide), if_pos rfl, if_pos (by simp), a2047, a52]
      simp only [show ¬ (64 : Int) = 32 by decide, if_false]
    · rw [if_neg (by decide), if_neg h64, if_neg (by simp; omega)]

open Go.Proofs.Ytmmdkjihigadcaa.FloatW
/-- Widen, as both tell it. -/
def widen (y : Int) : Int × Bool := if 0 ≤ y ∧ y ≤ 4294967295 then (impl_Widen_w y, true) else (0, false)
theorem impl_widen (k : Nat) (y : Int) : impl_Widen.f (k + 1) y = some (widen y) := by
  unfold widen
  by_cases h : 0 ≤ y ∧ y ≤ 4294967295
  · rw [if_pos h]; exact impl_Widen_wide k y h.1 h.2
  · rw [if_neg h]; exact impl_Widen_not k y h
theorem widen_w (y : Int) (h : 0 ≤ y ∧ y ≤ 4294967295) : impl_Widen_w y = ((wm (y % 2147483648).toNat : Nat) : Int) - y / 2147483648 * 9223372036854775808 := by
  unfold impl_Widen_w
  by_cases hy : 2147483648 ≤ y
  · rw [if_pos hy, show (y - 2147483648).toNat = (y % 2147483648).toNat by omega]; omega
  · rw [if_neg hy, show y.toNat = (y % 2147483648).toNat by omega]; omega

theorem high64 (s : Int) (hs : s = 0 ∨ s = 1) : IntKind.u64.wrap (IntKind.u64.wrap s * 9223372036854775808) = s * 9223372036854775808 := by
  rcases hs with rfl | rfl <;> rw [wu64, wu64] <;> decide
/-- Sign, power and rest put together in 64 bits. -/
theorem pack64 (s p r : Int) (hs : s = 0 ∨ s = 1) (hp : 0 ≤ p ∧ p < 2048) (hr : 0 ≤ r ∧ r < 4503599627370496) :
    wrap64 (Go.bits .or .u64 (Go.bits .or .u64 (s * 9223372036854775808) (p * 4503599627370496)) r) = p * 4503599627370496 + r - s * 9223372036854775808 := by
  have h1 : Go.bits .or .u64 (s * 9223372036854775808) (p * 4503599627370496) = p * 4503599627370496 + s * 9223372036854775808 := by
    rw [bits_or_comm, or_u64 63 _ _ (by omega) (by omega) (by omega) (by omega) (by omega) (by omega)]
  have h2 : Go.bits .or .u64 (p * 4503599627370496 + s * 9223372036854775808) r = r + (p * 4503599627370496 + s * 9223372036854775808) := by
    rw [bits_or_comm, or_u64 52 _ _ (by omega) (by omega) (by omega) (by omega) (by omega) (by omega)]
  rw [h1, h2]
  unfold wrap64
  omega
theorem double_log (n : Nat) (h : n ≠ 0) : (2 * n).log2 = n.log2 + 1 := by
  obtain ⟨a, b⟩ := log2_bounds h
  refine log2_eq ?_ ?_
  · rw [Nat.pow_succ]; omega
  · rw [Nat.pow_succ]; omega
/-- The loop doubles until the 24th bit is reached. -/
theorem spec_widen_l (h : Int) : ∀ (d k n : Nat) (p : Int), n ≠ 0 → n.log2 + d = 23 → (d : Int) - 100 ≤ p → p ≤ 100 → d + 1 ≤ k →
    spec_Widen.l0 k h p (n : Int) = some (wrap64 (Go.bits .or .u64 (Go.bits .or .u64 h ((p - d + 896) * 4503599627370496)) (((n * 2 ^ d : Nat) - 8388608) * 536870912)), true) := by
  intro d
  induction d with
  | zero =>
    intro k n p h0 hl hp0 hp1 hk
    obtain ⟨k, rfl⟩ : ∃ m, k = m + 1 := ⟨k - 1, by omega⟩
    obtain ⟨a, b⟩ := log2_bounds h0
    rw [show n.log2 = 23 by omega] at a b
    have a' : 8388608 ≤ n := a
    have b' : n < 16777216 := b
    simp only [spec_Widen.l0]
    rw [if_neg (by omega), w64 (n := p - 127) (by omega) (by omega), w64 (n := p - 127 + 1023) (by omega) (by omega), w64 (n := (n : Int) - 8388608) (by omega) (by omega), wu64_id (n := p - 127 + 1023) (by omega) (by omega), wu64_id (n := (n : Int) - 8388608) (by omega) (by omega), wu64_id (n := (p - 127 + 1023) * 4503599627370496) (by omega) (by omega), wu64_id (n := ((n : Int) - 8388608) * 536870912) (by omega) (by omega), show p - 127 + 1023 = p - ((0 : Nat) : Int) + 896 by omega, Nat.pow_zero, Nat.mul_one]
  | succ d ih =>
    intro k n p h0 hl hp0 hp1 hk
    obtain ⟨k, rfl⟩ : ∃ m, k = m + 1 := ⟨k - 1, by omega⟩
    have hn : n < 8388608 := by
      have b := (log2_bounds h0).2
      have : (2 : Nat) ^ (n.log2 + 1) ≤ 2 ^ 23 := Nat.pow_le_pow_right (by decide) (by omega)
      omega
    simp only [spec_Widen.l0]
    rw [if_pos (by omega), w64 (n := p - 1) (by omega) (by omega), w64 (n := (n : Int) * 2) (by omega) (by omega), show (n : Int) * 2 = ((2 * n : Nat) : Int) by omega, ih k (2 * n) (p - 1) (by omega) (by rw [double_log n h0]; omega) (by omega) (by omega) (by omega), show p - 1 - (d : Int) + 896 = p - ((d + 1 : Nat) : Int) + 896 by omega, show 2 * n * 2 ^ d = n * 2 ^ (d + 1) by rw [Nat.pow_succ, Nat.mul_comm 2 n, Nat.mul_assoc, Nat.mul_comm 2]]
theorem spec_widen (k : Nat) (y : Int) (hy : -9223372036854775808 ≤ y ∧ y ≤ 9223372036854775807) : spec_Widen.f (k + 30) y = some (widen y) := by
  unfold spec_Widen.f
  rw [spec_parts (k + 29) y 32 hy]
  by_cases h : 0 ≤ y ∧ y ≤ 4294967295
  · have hf : fis y 32 = true := decide_eq_true (Or.inl ⟨rfl, h⟩)
    rw [if_pos hf]
    have hw : widen y = (impl_Widen_w y, true) := if_pos h
    rw [hw, widen_w y h]
    have hs : y / 2147483648 = 0 ∨ y / 2147483648 = 1 := by omega
    have e1 : fpow y 32 = y / 8388608 % 256 := rfl
    have e2 : frest y 32 = y % 8388608 := rfl
    simp only [Option.bind_some, if_true, e1, e2, high64 _ hs]
    generalize hse : y / 2147483648 = s at hs
    generalize hpe : y / 8388608 % 256 = p
    generalize hre : y % 8388608 = r
    have hne : (y % 2147483648).toNat = (p * 8388608 + r).toNat := by omega
    rw [hne]
    have hp0 : 0 ≤ p ∧ p < 256 := by omega
    have hr0 : 0 ≤ r ∧ r < 8388608 := by omega
    clear hne hse hpe hre e1 e2 hw hf h hy
    by_cases h5 : p = 255
    · subst h5
      rw [if_pos rfl, wu64_id (n := r) (by omega) (by omega), wu64_id (n := r * 536870912) (by omega) (by omega), show (9218868437227405312 : Int) = 2047 * 4503599627370496 by decide, pack64 s 2047 _ hs (by omega) (by omega)]
      have : wm (255 * 8388608 + r).toNat = (255 * 8388608 + r).toNat * 536870912 + 1792 * 4503599627370496 := by
        unfold wm; rw [if_neg (by omega), if_neg (by omega), if_neg (by omega)]
      rw [this]
      refine congrArg some (Prod.ext ?_ rfl)
      simp only
      omega
    · rw [if_neg h5]
      by_cases hz : p = 0
      · subst hz
        rw [if_pos rfl]
        by_cases hrz : r = 0
        · subst hrz
          rw [show ((0 : Int) == 0) = true from rfl]
          simp only [spec_Widen.j0, if_true]
          refine congrArg some (Prod.ext ?_ rfl)
          have : wm (0 * 8388608 + 0 : Int).toNat = 0 := rfl
          simp only
          rw [this]
          unfold wrap64
          omega
        · rw [show (r == 0) = false from beq_eq_false_iff_ne.mpr hrz]
          obtain ⟨n, rfl⟩ : ∃ n : Nat, r = n := ⟨r.toNat, by omega⟩
          have hn0 : n ≠ 0 := by omega
          have hnl : n < 8388608 := by omega
          have hl : n.log2 < 23 := (Nat.log2_lt hn0).2 (by omega)
          obtain ⟨d, hd⟩ : ∃ d, n.log2 + d = 23 := ⟨23 - n.log2, by omega⟩
          simp only [spec_Widen.j0, Bool.false_eq_true, if_false, if_true]
          obtain ⟨q1, q2, q3, q4⟩ := wm_small n hn0 hnl
          have e : n * 2 ^ (52 - n.log2) = n * 2 ^ d * 536870912 := by
            rw [show 52 - n.log2 = d + 29 by omega, Nat.pow_add, Nat.mul_assoc]
          rw [spec_widen_l _ d _ n 1 hn0 hd (by omega) (by omega) (by omega)]
          rw [pack64 s _ _ hs (by omega) (by omega)]
          refine congrArg some (Prod.ext ?_ rfl)
          simp only
          rw [show (0 * 8388608 + (n : Int)).toNat = n by omega]
          omega
      · rw [if_neg hz]
        simp only [spec_Widen.j0, Bool.false_eq_true, if_false]
        rw [if_neg hz, w64 (n := p - 127) (by omega) (by omega), w64 (n := p - 127 + 1023) (by omega) (by omega), wu64_id (n := p - 127 + 1023) (by omega) (by omega), wu64_id (n := (p - 127 + 1023) * 4503599627370496) (by omega) (by omega), wu64_id (n := r) (by omega) (by omega), wu64_id (n := r * 536870912) (by omega) (by omega), pack64 s _ _ hs (by omega) (by omega)]
        have : wm (p * 8388608 + r).toNat = (p * 8388608 + r).toNat * 536870912 + 896 * 4503599627370496 := by
          unfold wm; rw [if_neg (by omega), if_neg (by omega), if_pos (by omega)]
        rw [this]
        refine congrArg some (Prod.ext ?_ rfl)
        simp only
        omega
  · have hf : ¬ fis y 32 = true := by
      intro e
      have := of_decide_eq_true e
      omega
    rw [if_neg hf]
    have hw : widen y = (0, false) := if_neg h
    rw [hw]
    simp only [Option.bind_some, Bool.false_eq_true, if_false]

/-- What is tried: the 32 bits that are to be widened again. -/
def stry (s p r : Int) : Option Int := if r % 536870912 = 0 then (if p = 2047 then some (s * 2147483648 + 255 * 8388608 + r / 536870912) else if p = 0 then some (s * 2147483648) else if 1 ≤ p - 896 ∧ p - 896 < 255 then some (s * 2147483648 + (p - 896) * 8388608 + r / 536870912) else if p - 896 ≤ 0 ∧ p - 896 > -23 then (if (r / 536870912 + 8388608) / 2 ^ (897 - p).toNat * 2 ^ (897 - p).toNat = r / 536870912 + 8388608 then some (s * 2147483648 + (r / 536870912 + 8388608) / 2 ^ (897 - p).toNat) else none) else none) else none
/-- Narrow: the bits that widen to these. -/
def narrowed (x : Int) (o : Option Int) : Int × Bool := match o with
  | some t => if impl_Widen_w t = x then (t, true) else (0, false)
  | none => (0, false)
theorem or3 (s p r : Int) (hs : s = 0 ∨ s = 1) (hp : 0 ≤ p ∧ p < 256) (hr : 0 ≤ r ∧ r < 8388608) : Go.bits .or .i64 (Go.bits .or .i64 (s * 2147483648) (p * 8388608)) r = s * 2147483648 + p * 8388608 + r := by
  have h1 : Go.bits .or .i64 (s * 2147483648) (p * 8388608) = p * 8388608 + s * 2147483648 := by
    rw [bits_or_comm, or_i64 31 _ _ (by omega) (by omega) (by omega) (by omega) (by omega) (by omega)]
  rw [h1, bits_or_comm, or_i64 23 _ _ (by omega) (by omega) (by omega) (by omega) (by omega) (by omega)]
  omega
theorem or2 (s v : Int) (hs : s = 0 ∨ s = 1) (hv : 0 ≤ v ∧ v < 2147483648) : Go.bits .or .i64 (s * 2147483648) v = s * 2147483648 + v := by
  rw [bits_or_comm, or_i64 31 _ _ (by omega) (by omega) (by omega) (by omega) (by omega) (by omega)]
  omega
theorem shr_le (v : Int) (n : Nat) (h0 : 0 ≤ v) : 0 ≤ v / 2 ^ n ∧ v / 2 ^ n ≤ v := by
  have : (1 : Int) ≤ 2 ^ n := by
    have := pow2_le (show 0 ≤ n by omega)
    simpa using this
  exact ⟨Int.ediv_nonneg h0 (by omega), Int.ediv_le_self _ h0⟩
theorem spec_narrow (k : Nat) (x : Int) (hx : -9223372036854775808 ≤ x ∧ x ≤ 9223372036854775807) :
    spec_Narrow.f (k + 40) x = some (narrowed x (stry (if x < 0 then 1 else 0) (x / 4503599627370496 % 2048) (x % 4503599627370496))) := by
  unfold spec_Narrow.f
  have hf : fis x 64 = true := decide_eq_true (Or.inr rfl)
  have e1 : fpow x 64 = x / 4503599627370496 % 2048 := rfl
  have e2 : frest x 64 = x % 4503599627370496 := rfl
  rw [spec_parts (k + 39) x 64 hx, if_pos hf]
  simp only [Option.bind_some, show ¬ (64 : Int) = 32 by decide, if_false, e1, e2]
  have hs : (if x < 0 then (1 : Int) else 0) = 0 ∨ (if x < 0 then (1 : Int) else 0) = 1 := by split <;> simp
  generalize (if x < 0 then (1 : Int) else 0) = s at hs
  generalize hp : x / 4503599627370496 % 2048 = p
  generalize hr : x % 4503599627370496 = r
  have hp0 : 0 ≤ p ∧ p < 2048 := by omega
  have hr0 : 0 ≤ r ∧ r < 4503599627370496 := by omega
  clear hp hr e1 e2 hf
  have fin : ∀ (j : Nat) (t : Int), 0 ≤ t ∧ t ≤ 4294967295 → ((spec_Widen.f (j + 30) t).bind fun b => if b.1 = x then some (t, true) else some (0, false)) = some (narrowed x (some t)) := by
    intro j t ht
    rw [spec_widen j t (by omega)]
    have : widen t = (impl_Widen_w t, true) := if_pos ht
    simp only [Option.bind_some, this, narrowed]
    split <;> rfl
  unfold stry
  rw [Int.tmod_eq_emod_of_nonneg hr0.1, w64 (n := s * 2147483648) (by omega) (by omega)]
  by_cases h29 : r % 536870912 = 0
  · rw [if_pos h29, if_pos h29]
    by_cases h5 : p = 2047
    · rw [if_pos h5, if_pos h5, show (2139095040 : Int) = 255 * 8388608 by decide, or3 s 255 _ hs (by omega) (by omega)]
      exact fin (k + 10) _ (by omega)
    · rw [if_neg h5, if_neg h5]
      by_cases hz : p = 0
      · rw [if_pos hz, if_pos hz]
        exact fin (k + 10) _ (by omega)
      · rw [if_neg hz, if_neg hz, w64 (n := p - 1023) (by omega) (by omega), w64 (n := p - 1023 + 127) (by omega) (by omega), show p - 1023 + 127 = p - 896 by omega]
        have hj : ∀ j, spec_Narrow.j0 (j + 32) x (s * 2147483648) (r / 536870912) (p - 896) false = some (narrowed x (if p - 896 ≤ 0 ∧ p - 896 > -23 then (if (r / 536870912 + 8388608) / 2 ^ (897 - p).toNat * 2 ^ (897 - p).toNat = r / 536870912 + 8388608 then some (s * 2147483648 + (r / 536870912 + 8388608) / 2 ^ (897 - p).toNat) else none) else none)) := by
          intro j
          simp only [spec_Narrow.j0, Bool.false_eq_true, if_false]
          by_cases hle : p - 896 ≤ 0
          · rw [if_pos hle]
            by_cases hgt : p - 896 > -23
            · have e3 : IntKind.u64.wrap (wrap64 (1 - (p - 896))) = 897 - p := by
                rw [w64 (by omega) (by omega), wu64_id (by omega) (by omega)]; omega
              have e4 : wrap64 (r / 536870912 + 8388608) = r / 536870912 + 8388608 := w64 (by omega) (by omega)
              have e5 : shr .i64 (r / 536870912 + 8388608) (897 - p) = (r / 536870912 + 8388608) / 2 ^ (897 - p).toNat := by
                unfold shr; rw [Nat.min_eq_left (by simp [IntKind.bits]; omega)]
              have hq := shr_le (r / 536870912 + 8388608) (897 - p).toNat (by omega)
              have hback : (r / 536870912 + 8388608) / 2 ^ (897 - p).toNat * 2 ^ (897 - p).toNat ≤ r / 536870912 + 8388608 := Int.ediv_mul_le _ (by have := pow2_le (show 0 ≤ (897 - p).toNat by omega); simp at this; omega)
              have hback0 : 0 ≤ (r / 536870912 + 8388608) / 2 ^ (897 - p).toNat * 2 ^ (897 - p).toNat := Int.mul_nonneg hq.1 (Int.le_of_lt (Int.pow_pos (by decide)))
              have e6 : shl .i64 ((r / 536870912 + 8388608) / 2 ^ (897 - p).toNat) (897 - p) = (r / 536870912 + 8388608) / 2 ^ (897 - p).toNat * 2 ^ (897 - p).toNat := by
                unfold shl; rw [Nat.min_eq_left (by simp [IntKind.bits]; omega), wi64, w64 (by omega) (by omega)]
              rw [decide_eq_true hgt, if_pos ⟨hle, hgt⟩]
              simp only [spec_Narrow.j1, if_true, e3, e4, e5, e6]
              rw [if_pos (show 0 ≤ 897 - p by omega)]
              by_cases hb : (r / 536870912 + 8388608) / 2 ^ (897 - p).toNat * 2 ^ (897 - p).toNat = r / 536870912 + 8388608
              · rw [if_pos hb, if_pos hb, or2 s _ hs (by omega)]
                exact fin j _ (by omega)
              · rw [if_neg hb, if_neg hb]; rfl
            · rw [decide_eq_false hgt, if_neg (fun e => hgt e.2)]
              simp only [spec_Narrow.j1, Bool.false_eq_true, if_false]; rfl
          · rw [if_neg hle, if_neg (fun e => hle e.1)]
            simp only [spec_Narrow.j1, Bool.false_eq_true, if_false]; rfl
        by_cases h1 : p - 896 ≥ 1
        · rw [if_pos h1]
          by_cases h2 : p - 896 < 255
          · rw [decide_eq_true h2, if_pos (show 1 ≤ p - 896 ∧ p - 896 < 255 from ⟨h1, h2⟩)]
            simp only [spec_Narrow.j0, if_true]
            rw [w64 (n := (p - 896) * 8388608) (by omega) (by omega), or3 s (p - 896) _ hs (by omega) (by omega)]
            exact fin (k + 9) _ (by omega)
          · rw [decide_eq_false h2, if_neg (fun e => h2 e.2)]
            exact hj (k + 8)
        · rw [if_neg h1, if_neg (fun e => h1 e.1)]
          exact hj (k + 8)
  · rw [if_neg h29, if_neg h29]; rfl
/-- Who widens to these bits is what is tried. -/
theorem stry_back (x y : Int) (hy : 0 ≤ y ∧ y ≤ 4294967295) (h : impl_Widen_w y = x) : stry (if x < 0 then 1 else 0) (x / 4503599627370496 % 2048) (x % 4503599627370496) = some y := by
  rw [widen_w y hy] at h
  have hwl : wm (y % 2147483648).toNat < 9223372036854775808 := wm_lt _ (by omega)
  generalize hse : y / 2147483648 = s at h
  generalize hm : (y % 2147483648).toNat = m at h hwl
  have hs : s = 0 ∨ s = 1 := by omega
  have hm0 : m < 2147483648 := by omega
  have hye : y = s * 2147483648 + m := by omega
  have es : (if x < 0 then (1 : Int) else 0) = s := by split <;> omega
  have ep : x / 4503599627370496 % 2048 = ((wm m / 4503599627370496 : Nat) : Int) := by omega
  have er : x % 4503599627370496 = ((wm m % 4503599627370496 : Nat) : Int) := by omega
  rw [es, ep, er, hye]
  clear h hwl hse hm es ep er hye hy
  unfold stry
  by_cases h0 : m = 0
  · subst h0
    have : wm 0 = 0 := rfl
    rw [this, if_pos (by decide), if_neg (by decide), if_pos (by decide)]
    congr 1; omega
  · by_cases hsm : m < 8388608
    · obtain ⟨q1, q2, q3, q4⟩ := wm_small m h0 hsm
      have hl : m.log2 < 23 := (Nat.log2_lt h0).2 (by omega)
      rw [q1, q2]
      obtain ⟨d, hd⟩ : ∃ d, m.log2 + d = 23 := ⟨23 - m.log2, by omega⟩
      have e : m * 2 ^ (52 - m.log2) = m * 2 ^ d * 536870912 := by
        rw [show 52 - m.log2 = d + 29 by omega, Nat.pow_add, Nat.mul_assoc]
      rw [e] at q3 q4 ⊢
      rw [if_pos (by omega), if_neg (by omega), if_neg (by omega), if_neg (by omega), if_pos (by omega)]
      have e7 : (897 - ((m.log2 + 874 : Nat) : Int)).toNat = d := by omega
      have e8 : ((m * 2 ^ d * 536870912 - 4503599627370496 : Nat) : Int) / 536870912 + 8388608 = (m : Int) * 2 ^ d := by
        have : ((m * 2 ^ d : Nat) : Int) = (m : Int) * 2 ^ d := by simp
        omega
      rw [e7, e8, Int.mul_ediv_cancel _ (by have := Int.pow_pos (n := 2) (m := d) (by decide); omega), if_pos rfl]
    · by_cases hfin : m < 2139095040
      · have hw : wm m = m * 536870912 + 896 * 4503599627370496 := by unfold wm; rw [if_neg h0, if_neg hsm, if_pos hfin]
        have q1 : wm m / 4503599627370496 = m / 8388608 + 896 := by omega
        have q2 : wm m % 4503599627370496 = m % 8388608 * 536870912 := by omega
        rw [q1, q2, if_pos (by omega), if_neg (by omega), if_neg (by omega), if_pos (by omega)]
        congr 1; omega
      · have hw : wm m = m * 536870912 + 1792 * 4503599627370496 := by unfold wm; rw [if_neg h0, if_neg hsm, if_neg hfin]
        have q1 : wm m / 4503599627370496 = 2047 := by omega
        have q2 : wm m % 4503599627370496 = m % 8388608 * 536870912 := by omega
        rw [q1, q2, if_pos (by omega), if_pos (by decide)]
        congr 1; omega
/-- Two floats of 32 bits do not widen to the same. -/
theorem widen_inj (a b : Int) (ha : 0 ≤ a ∧ a ≤ 4294967295) (hb : 0 ≤ b ∧ b ≤ 4294967295) (h : impl_Widen_w a = impl_Widen_w b) : a = b := by
  rw [widen_w a ha, widen_w b hb] at h
  have h1 : wm (a % 2147483648).toNat < 9223372036854775808 := wm_lt _ (by omega)
  have h2 : wm (b % 2147483648).toNat < 9223372036854775808 := wm_lt _ (by omega)
  have h3 : wm (a % 2147483648).toNat = wm (b % 2147483648).toNat := by omega
  have := wm_inj (by omega) (by omega) h3
  omega
theorem stry_range (s p r t : Int) (hs : s = 0 ∨ s = 1) (hp : 0 ≤ p ∧ p < 2048) (hr : 0 ≤ r ∧ r < 4503599627370496) (h : stry s p r = some t) : 0 ≤ t ∧ t ≤ 4294967295 := by
  unfold stry at h
  split at h
  · split at h
    · have := Option.some.inj h; omega
    · split at h
      · have := Option.some.inj h; omega
      · split at h
        · have := Option.some.inj h; omega
        · split at h
          · split at h
            · have := Option.some.inj h
              have := shr_le (r / 536870912 + 8388608) (897 - p).toNat (by omega)
              omega
            · cases h
          · cases h
  · cases h

theorem impl_size64 (x : Int) : impl_size.f x 64 = some (x % 9223372036854775808, decide (x < 0)) := by
  unfold impl_size.f
  rw [if_neg (by decide), show Go.bits .and .i64 x 9223372036854775807 = x % 9223372036854775808 from and_i64 63 (by decide) x]
theorem impl_narrow (k : Nat) (x : Int) : impl_Narrow.f (k + 1) x = some (let t := impl_Narrow_try (decide (x < 0)) (x / 4503599627370496 % 2048) (x % 4503599627370496) (x % 9223372036854775808); if widen t = (x, true) then (t, true) else (0, false)) := by
  unfold impl_Narrow.f
  have hf : fis x 64 = true := decide_eq_true (Or.inr rfl)
  have e1 : fpow x 64 = x / 4503599627370496 % 2048 := rfl
  have e2 : frest x 64 = x % 4503599627370496 := rfl
  rw [impl_parts k x 64, if_pos hf]
  simp only [Option.bind_some, show ¬ (64 : Int) = 32 by decide, if_false, e1, e2, impl_size64, impl_widen]
  generalize impl_Narrow_try (decide (x < 0)) (x / 4503599627370496 % 2048) (x % 4503599627370496) (x % 9223372036854775808) = t
  rcases hw : widen t with ⟨a, b⟩
  cases b with
  | false => simp
  | true =>
    simp only [if_true, Prod.mk.injEq, and_true]
    split <;> rfl
theorem try_back (x y : Int) (hy : 0 ≤ y ∧ y ≤ 4294967295) (h : impl_Widen_w y = x) : impl_Narrow_try (decide (x < 0)) (x / 4503599627370496 % 2048) (x % 4503599627370496) (x % 9223372036854775808) = y := by
  have hq : ∀ q : Int, 0 ≤ q ∧ q < 2147483648 → Go.bits .or .i64 (impl_Narrow_out (decide (x < 0))) q = (if x < 0 then 2147483648 else 0) + q := by
    intro q hq
    have e : impl_Narrow_out (decide (x < 0)) = if x < 0 then 2147483648 else 0 := by unfold impl_Narrow_out; simp
    rw [e, bits_or_comm]
    split
    · rw [or_i64 31 _ _ (by omega) (by omega) (by omega) (by omega) (by omega) (by omega)]; omega
    · rw [or_i64 31 _ _ (by omega) (by omega) (by omega) (by omega) (by omega) (by omega)]; omega
  unfold impl_Narrow_try
  have hx := h
  rw [widen_w y hy] at h
  have hwl : wm (y % 2147483648).toNat < 9223372036854775808 := wm_lt _ (by omega)
  by_cases h5 : x / 4503599627370496 % 2048 = 2047
  · rw [if_pos h5]
    have hm : ¬ (y % 2147483648).toNat < 2139095040 := by
      intro hf
      by_cases h0 : (y % 2147483648).toNat = 0
      · have : wm (y % 2147483648).toNat = 0 := by rw [h0]; rfl
        omega
      · by_cases hsm : (y % 2147483648).toNat < 8388608
        · obtain ⟨q1, _⟩ := wm_small _ h0 hsm
          have hl : (y % 2147483648).toNat.log2 < 23 := (Nat.log2_lt h0).2 (by omega)
          omega
        · have hw : wm (y % 2147483648).toNat = (y % 2147483648).toNat * 536870912 + 896 * 4503599627370496 := by unfold wm; rw [if_neg h0, if_neg hsm, if_pos hf]
          omega
    have hw : wm (y % 2147483648).toNat = (y % 2147483648).toNat * 536870912 + 1792 * 4503599627370496 := by unfold wm; rw [if_neg (by omega), if_neg (by omega), if_neg hm]
    have ho : Go.bits .or .i64 2139095040 (x % 4503599627370496 / 536870912) = 2139095040 + x % 4503599627370496 / 536870912 := by
      rw [bits_or_comm, or_i64 23 _ _ (by omega) (by omega) (by omega) (by omega) (by omega) (by omega)]; omega
    rw [ho, hq _ (by omega)]
    split <;> omega
  · rw [if_neg h5]
    obtain ⟨e1, e2⟩ := impl_Narrow_back x y hy.1 hy.2 hx h5
    rw [e1, Option.getD_some, w64 (by omega) (by omega), hq _ (by omega)]
    split <;> omega

theorem narrow_same (x : Int) (hx : -9223372036854775808 ≤ x ∧ x ≤ 9223372036854775807) : spec_Narrow.f 40 x = impl_Narrow.f 40 x := by
  rw [spec_narrow 0 x hx, impl_narrow 39 x]
  refine congrArg some ?_
  have wt : ∀ t, widen t = (x, true) → (0 ≤ t ∧ t ≤ 4294967295) ∧ impl_Widen_w t = x := by
    intro t e
    unfold widen at e
    split at e
    · rename_i hr
      exact ⟨hr, congrArg Prod.fst e⟩
    · have := congrArg Prod.snd e
      simp at this
  by_cases he : ∃ y : Int, (0 ≤ y ∧ y ≤ 4294967295) ∧ impl_Widen_w y = x
  · obtain ⟨y, hy, hw⟩ := he
    rw [stry_back x y hy hw, try_back x y hy hw]
    have : widen y = (x, true) := by unfold widen; rw [if_pos hy, hw]
    simp only [this, narrowed, hw, if_true]
  · have e2 : ∀ t, ¬ widen t = (x, true) := fun t e => he ⟨t, wt t e⟩
    simp only [e2, if_false]
    have hs : (if x < 0 then (1 : Int) else 0) = 0 ∨ (if x < 0 then (1 : Int) else 0) = 1 := by split <;> simp
    cases ht : stry (if x < 0 then 1 else 0) (x / 4503599627370496 % 2048) (x % 4503599627370496) with
    | none => rfl
    | some t =>
      have hr := stry_range _ _ _ t hs (by omega) (by omega) ht
      simp only [narrowed]
      rw [if_neg (fun e => he ⟨t, hr, e⟩)]
theorem FnExactNarrow : laws_FnExactNarrow.Pure := by
  intro a ha
  refine ⟨40, ?_⟩
  unfold laws_FnExactNarrow.f
  rw [narrow_same a (wf_i64 ha), impl_narrow 39 a]
  simp

end Go.Proofs.Ytmmdkjihigadcaa.Pure
