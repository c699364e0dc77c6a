/- FloatLess: for all bits and widths both tell the same. No condition. -/
import Derived.Test.YtmmdkjihigadcaaPFnExactFloatLessx3
import Derived.Test.YtmmdkjihigadcaaLib
set_option linter.unusedSimpArgs false
set_option linter.unusedVariables false
namespace Go.Proofs.Ytmmdkjihigadcaa.Pure
open Go Go.RowKit Go.Proofs.Ytmmdkjihigadcaa.PFnExactFloatLess Go.Proofs.YtmmdkjihigadcaaW.PrintWords Go.Proofs.YtmmdkjihigadcaaW.PrintLast Go.Proofs.YtmmdkjihigadcaaW.PrintMore Go.Proofs.Ytmmdkjihigadcaa.Lib

/-- The power and the rest of a float's bits. -/
def fpow (x w : Int) : Int := if w = 32 then x / 8388608 % 256 else x / 4503599627370496 % 2048
def frest (x w : Int) : Int := if w = 32 then x % 8388608 else x % 4503599627370496
def ftop (w : Int) : Int := if w = 32 then 255 else 2047
def fis (x w : Int) : Bool := decide (w = 32 ∧ 0 ≤ x ∧ x ≤ 4294967295 ∨ w = 64)
def fclass (x w : Int) : Int := if fis x w = true then (if fpow x w = 0 then (if frest x w = 0 then 1 else 2) else if fpow x w = ftop w then (if frest x w = 0 then 4 else 5) else 3) else 0
theorem a255 (x : Int) : Go.bits .and .i64 x 255 = x % 256 := and_i64 8 (by decide) x
theorem a2047 (x : Int) : Go.bits .and .i64 x 2047 = x % 2048 := and_i64 11 (by decide) x
theorem a23 (x : Int) : Go.bits .and .i64 x 8388607 = x % 8388608 := and_i64 23 (by decide) x
theorem a52 (x : Int) : Go.bits .and .i64 x 4503599627370495 = x % 4503599627370496 := and_i64 52 (by decide) x
theorem u2047 (x : Int) (h0 : 0 ≤ x) (h1 : x < 18446744073709551616) : Go.bits .and .u64 x 2047 = x % 2048 := and_u64 11 (by decide) x h0 h1
theorem u52 (x : Int) (h0 : 0 ≤ x) (h1 : x < 18446744073709551616) : Go.bits .and .u64 x 4503599627370495 = x % 4503599627370496 := and_u64 52 (by decide) x h0 h1

theorem spec_parts (k : Nat) (x w : Int) (hx : -9223372036854775808 ≤ x ∧ x ≤ 9223372036854775807) :
    spec_l2Parts.f (k + 1) x w = some (if fis x w = true then (if w = 32 then x / 2147483648 else if x < 0 then 1 else 0, fpow x w, frest x w, ftop w, true) else (0, 0, 0, 0, false)) := by
  unfold spec_l2Parts.f spec_l1In.f fis fpow frest ftop
  by_cases h32 : w = 32
  · subst h32
    rw [if_pos rfl]
    by_cases h0 : x ≥ 0
    · rw [if_pos h0]
      simp only [Option.bind_some, spec_l2Parts.j0]
      by_cases h1 : x ≤ 4294967295
      · rw [if_pos (by simpa using h1), a255, a23, if_pos (by simp; omega)]; simp
      · rw [if_neg (by simpa using h1), if_neg (by decide), if_neg (by simp; omega)]
    · rw [if_neg h0]
      simp only [Option.bind_some, spec_l2Parts.j0]
      rw [if_neg (by decide), if_neg (by decide), if_neg (by simp; omega)]
  · rw [if_neg h32]
    simp only [spec_l2Parts.j0]
    by_cases h64 : w = 64
    · subst h64
      rw [if_neg (by decide), if_pos rfl, if_pos (by simp), wu64, u2047 _ (by omega) (by omega), u52 _ (by omega) (by omega)]
      simp only [show ¬ (64 : Int) = 32 by decide, if_false]
      refine congrArg some ?_
      refine Prod.ext ?_ (Prod.ext ?_ (Prod.ext ?_ rfl))
      · simp only
        split
        · rw [w64 (by omega) (by omega)]; omega
        · rw [w64 (by omega) (by omega)]; omega
      · simp only; rw [w64 (by omega) (by omega)]; omega
      · simp only; rw [w64 (by omega) (by omega)]; omega
    · rw [if_neg (by decide), if_neg h64, if_neg (by simp; omega)]

theorem spec_class (k : Nat) (x w : Int) (hx : -9223372036854775808 ≤ x ∧ x ≤ 9223372036854775807) : spec_FloatClass.f (k + 3) x w = some (fclass x w) := by
  unfold spec_FloatClass.f
  rw [spec_parts (k + 2) x w hx]
  unfold fclass
  by_cases h : fis x w = true
  · simp only [h, if_true, Option.bind_some, spec_FloatClass.j0, spec_FloatClass.j1]
    repeat' split
    all_goals simp_all
  · simp only [h, if_false, Option.bind_some, Bool.false_eq_true]

theorem impl_parts (k : Nat) (x w : Int) :
    impl_partsOf.f (k + 1) x w = some (if fis x w = true then (if w = 32 then x / 2147483648 == 1 else decide (x < 0), fpow x w, frest x w, ftop w, true) else (false, 0, 0, 0, false)) := by
  unfold impl_partsOf.f impl_within.f fis fpow frest ftop
  by_cases h32 : w = 32
  · subst h32
    rw [if_pos rfl]
    by_cases h0 : x ≥ 0
    · rw [if_pos h0]
      simp only [Option.bind_some, impl_partsOf.j0]
      by_cases h1 : x ≤ 4294967295
      · rw [if_pos (by simpa using h1), a255, a23, if_pos (by simp; omega)]; simp
      · rw [if_neg (by simpa using h1), if_neg (by decide), if_neg (by simp; omega)]
    · rw [if_neg h0]
      simp only [Option.bind_some, impl_partsOf.j0]
      rw [if_neg (by decide), if_neg (by decide), if_neg (by simp; omega)]
  · rw [if_neg h32]
    simp only [impl_partsOf.j0]
    by_cases h64 : w = 64
    · subst h64
      rw [if_neg (by decide), if_pos rfl, if_pos (by simp), a2047, a52]
      simp only [show ¬ (64 : Int) = 32 by decide, if_false]
    · rw [if_neg (by decide), if_neg h64, if_neg (by simp; omega)]

theorem impl_class (k : Nat) (x w : Int) : impl_FloatClass.f (k + 3) x w = some (fclass x w) := by
  unfold impl_FloatClass.f
  rw [impl_parts (k + 2) x w]
  unfold fclass
  by_cases h : fis x w = true
  · simp only [h, if_true, Option.bind_some, impl_FloatClass.j0, impl_FloatClass.j1]
    repeat' split
    all_goals simp_all
  · simp only [h, if_false, Option.bind_some, Bool.false_eq_true]


/-- A float's bits without the sign, and the sign. -/
def fmag (x w : Int) : Int := if w = 32 then x % 2147483648 else x % 9223372036854775808
def fsign (x w : Int) : Bool := if w = 32 then x / 2147483648 == 1 else decide (x < 0)
/-- The bits of infinity. -/
def finf (w : Int) : Int := if w = 32 then 2139095040 else 9218868437227405312
theorem size_eq (x w : Int) : impl_size.f x w = some (fmag x w, fsign x w) := by
  unfold impl_size.f fmag fsign
  have h1 : Go.bits .and .i64 x 2147483647 = x % 2147483648 := and_i64 31 (by decide) x
  have h2 : Go.bits .and .i64 x 9223372036854775807 = x % 9223372036854775808 := and_i64 63 (by decide) x
  rw [h1, h2]
  split <;> rfl
theorem fis_cases {x w : Int} (h : fis x w = true) : (w = 32 ∧ 0 ≤ x ∧ x ≤ 4294967295) ∨ w = 64 := by
  unfold fis at h
  have := of_decide_eq_true h
  omega
theorem class_zero {x w : Int} (h : ¬ fis x w = true) : fclass x w = 0 := by unfold fclass; rw [if_neg h]
theorem class_facts {x w : Int} (h : fis x w = true) : fclass x w ≠ 0 ∧ (fclass x w = 1 ↔ fmag x w = 0) ∧ (fclass x w = 4 ↔ fmag x w = finf w) ∧ (fclass x w = 5 ↔ finf w < fmag x w) := by
  have hc := fis_cases h
  unfold fclass fmag finf
  rw [if_pos h]
  unfold fpow frest ftop
  rcases hc with ⟨rfl, h0, h1⟩ | rfl
  · simp only [if_true]
    repeat' split
    all_goals refine ⟨by omega, ?_, ?_, ?_⟩ <;> constructor <;> intro _ <;> omega
  · simp only [show ¬ (64 : Int) = 32 by decide, if_false]
    repeat' split
    all_goals refine ⟨by omega, ?_, ?_, ?_⟩ <;> constructor <;> intro _ <;> omega
theorem mag_range (x w : Int) : 0 ≤ fmag x w ∧ fmag x w < 9223372036854775808 := by
  unfold fmag; split <;> omega
/-- Which of two numbers is greater. -/
def sgn3 (a b : Int) : Int := if a < b then -1 else if a > b then 1 else 0
theorem cmp_eq (a b : Int) : cmp_Compare_int.f a b = some (sgn3 a b) := by
  unfold cmp_Compare_int.f cmp_isNaN_int.f sgn3
  simp only [bne_self_eq_false, Option.bind_some, Bool.false_eq_true, if_false]
  repeat' split
  all_goals rfl

/-- The key of the total order. -/
def okey (x w : Int) : Int := if fsign x w = true then -fmag x w - 1 else fmag x w
def forder (a b w : Int) : Int := if fclass a w = 0 then 0 else if fclass b w = 0 then 0 else sgn3 (okey a w) (okey b w)

theorem okey_spec (x w : Int) (h : fis x w = true) (hx : -9223372036854775808 ≤ x ∧ x ≤ 9223372036854775807) : spec_l2Key.f x w = some (okey x w) := by
  unfold spec_l2Key.f okey fsign fmag
  rcases fis_cases h with ⟨rfl, h0, h1⟩ | rfl
  · simp only [if_true]
    by_cases hs : x ≥ 2147483648
    · rw [if_pos hs, if_pos (by rw [beq_iff_eq]; omega), w64 (by omega) (by omega)]
      congr 1; omega
    · rw [if_neg hs, if_neg (by rw [beq_iff_eq]; omega)]
      congr 1; omega
  · simp only [show ¬ (64 : Int) = 32 by decide, if_false]
    by_cases hs : x < 0
    · rw [if_pos hs, if_pos (decide_eq_true hs), w64 (n := -9223372036854775808 - x) (by omega) (by omega), w64 (by omega) (by omega)]
      congr 1; omega
    · rw [if_neg hs, if_neg (by simpa using hs)]
      congr 1; omega
theorem order_spec (k : Nat) (hk : 4 ≤ k) (a b w : Int) (ha : -9223372036854775808 ≤ a ∧ a ≤ 9223372036854775807) (hb : -9223372036854775808 ≤ b ∧ b ≤ 9223372036854775807) : spec_FloatOrder.f k a b w = some (forder a b w) := by
  obtain ⟨k, rfl⟩ : ∃ m, k = m + 4 := ⟨k - 4, by omega⟩
  unfold spec_FloatOrder.f forder
  rw [spec_class (k + 1) a w ha, spec_class (k + 1) b w hb]
  simp only [Option.bind_some]
  by_cases h1 : fclass a w = 0
  · rw [if_pos h1, if_pos h1]; simp only [spec_FloatOrder.j0, if_true]
  · rw [if_neg h1, if_neg h1]
    by_cases h2 : fclass b w = 0
    · rw [if_pos h2, show (fclass b w == 0) = true from beq_iff_eq.mpr h2]; simp only [spec_FloatOrder.j0, if_true]
    · have fa : fis a w = true := Classical.byContradiction fun h => h1 (class_zero h)
      have fb : fis b w = true := Classical.byContradiction fun h => h2 (class_zero h)
      rw [if_neg h2, show (fclass b w == 0) = false from beq_eq_false_iff_ne.mpr h2]
      simp only [spec_FloatOrder.j0, Bool.false_eq_true, if_false, okey_spec a w fa ha, okey_spec b w fb hb, Option.bind_some]
      unfold sgn3
      repeat' split
      all_goals rfl

/-- The key by which floats compare. -/
def ckey (x w : Int) : Int := if fsign x w = true then -fmag x w else fmag x w
theorem ckey_impl (x w : Int) : impl_floatCompare_key x w = some (ckey x w) := by
  unfold impl_floatCompare_key ckey
  have hm := mag_range x w
  rw [size_eq]
  simp only [Option.bind_some]
  split
  · rw [w64 (n := -fmag x w) (by omega) (by omega)]
  · rfl
/-- None, or no number. -/
def fodd (x w : Int) : Bool := decide (fclass x w = 0 ∨ fclass x w = 5)
def fcmp (a b w : Int) : Int × Bool := if fodd a w = true then (0, false) else if fodd b w = true then (0, false) else (sgn3 (ckey a w) (ckey b w), true)
theorem cmp_impl (k : Nat) (hk : 3 ≤ k) (a b w : Int) : impl_floatCompare.f k a b w = some (fcmp a b w) := by
  obtain ⟨k, rfl⟩ : ∃ m, k = m + 3 := ⟨k - 3, by omega⟩
  unfold impl_floatCompare.f fcmp fodd
  rw [impl_class k a w, impl_class k b w]
  simp only [Option.bind_some, ckey_impl, cmp_eq, decide_eq_true_eq]
  by_cases h1 : fclass a w = 0
  · simp [h1]
  · by_cases h2 : fclass a w = 5
    · simp [h2]
    · by_cases h3 : fclass b w = 0
      · simp [h1, h2, h3]
      · by_cases h4 : fclass b w = 5
        · simp [h1, h2, h4]
        · simp [h1, h2, h3, h4]
theorem odd_false {x w : Int} (h : ¬ fodd x w = true) : fis x w = true ∧ fmag x w ≤ finf w := by
  unfold fodd at h
  have h' : ¬ (fclass x w = 0 ∨ fclass x w = 5) := by simpa using h
  have fx : fis x w = true := Classical.byContradiction fun e => h' (.inl (class_zero e))
  refine ⟨fx, ?_⟩
  obtain ⟨_, _, _, h5⟩ := class_facts fx
  omega
/-- A float is its sign and the rest. -/
theorem float_parts {a b w : Int} (ha : fis a w = true) (hb : fis b w = true) (ra : -9223372036854775808 ≤ a ∧ a ≤ 9223372036854775807) (rb : -9223372036854775808 ≤ b ∧ b ≤ 9223372036854775807) (hs : fsign a w = fsign b w) (hm : fmag a w = fmag b w) : a = b := by
  unfold fsign at hs
  unfold fmag at hm
  rcases fis_cases ha with ⟨rfl, h0, h1⟩ | rfl
  · rcases fis_cases hb with ⟨_, h2, h3⟩ | h2
    · simp only [if_true] at hs hm
      have : (a / 2147483648 = 1) ↔ (b / 2147483648 = 1) := by rw [Bool.eq_iff_iff, beq_iff_eq, beq_iff_eq] at hs; exact hs
      omega
    · omega
  · simp only [show ¬ (64 : Int) = 32 by decide, if_false] at hs hm
    have : (a < 0) ↔ (b < 0) := by rw [← decide_eq_true_iff (p := a < 0), ← decide_eq_true_iff (p := b < 0), hs]
    omega

theorem odd_spec (k : Nat) (hk : 3 ≤ k) (a b w : Int) (ha : -9223372036854775808 ≤ a ∧ a ≤ 9223372036854775807) (hb : -9223372036854775808 ≤ b ∧ b ≤ 9223372036854775807) : spec_l2Odd.f k a b w = some (fodd a w || fodd b w) := by
  obtain ⟨k, rfl⟩ : ∃ m, k = m + 3 := ⟨k - 3, by omega⟩
  unfold spec_l2Odd.f fodd
  rw [spec_class k a w ha, spec_class k b w hb]
  simp only [Option.bind_some]
  by_cases h1 : fclass a w = 0
  · simp [h1]
  · by_cases h2 : fclass a w = 5
    · simp [h2]
    · by_cases h3 : fclass b w = 0
      · simp [h1, h2, h3]
      · by_cases h4 : fclass b w = 5 <;> simp [h1, h2, h3, h4]
theorem zeros_spec (k : Nat) (hk : 3 ≤ k) (a b w : Int) (ha : -9223372036854775808 ≤ a ∧ a ≤ 9223372036854775807) (hb : -9223372036854775808 ≤ b ∧ b ≤ 9223372036854775807) : spec_l2Zeros.f k a b w = some (decide (fclass a w = 1 ∧ fclass b w = 1)) := by
  obtain ⟨k, rfl⟩ : ∃ m, k = m + 3 := ⟨k - 3, by omega⟩
  unfold spec_l2Zeros.f
  rw [spec_class k a w ha, spec_class k b w hb]
  simp only [Option.bind_some]
  by_cases h1 : fclass a w = 1
  · by_cases h2 : fclass b w = 1 <;> simp [h1, h2]
  · simp [h1]

theorem less_same (a b w : Int) (oa : ¬ fodd a w = true) (ob : ¬ fodd b w = true) (hz : ¬ (fclass a w = 1 ∧ fclass b w = 1)) :
    (sgn3 (ckey a w) (ckey b w) < 0) ↔ (forder a b w < 0) := by
  obtain ⟨fa, ma⟩ := odd_false oa
  obtain ⟨fb, mb⟩ := odd_false ob
  obtain ⟨na, za, _, _⟩ := class_facts fa
  obtain ⟨nb, zb, _, _⟩ := class_facts fb
  have ra := mag_range a w
  have rb := mag_range b w
  rw [za, zb] at hz
  unfold forder
  rw [if_neg na, if_neg nb]
  unfold sgn3 ckey okey
  cases fsign a w <;> cases fsign b w <;> simp only [if_true, Bool.false_eq_true, if_false]
  all_goals constructor
  all_goals intro h
  all_goals repeat' split at h
  all_goals repeat' split
  all_goals omega
theorem FnExactFloatLess : laws_FnExactFloatLess.Pure := by
  intro a b w ha hb hw
  have ra := wf_i64 ha
  have rb := wf_i64 hb
  refine ⟨10, ?_⟩
  unfold laws_FnExactFloatLess.f spec_FloatLess.f impl_FloatLess.f
  rw [odd_spec 10 (by omega) a b w ra rb, zeros_spec 10 (by omega) a b w ra rb, cmp_impl 10 (by omega) a b w, order_spec 10 (by omega) a b w ra rb]
  unfold fcmp
  by_cases oa : fodd a w = true
  · simp [oa]
  · by_cases ob : fodd b w = true
    · simp [oa, ob]
    · simp only [oa, ob, Bool.or_self, Option.bind_some, Bool.false_eq_true, if_false, if_true]
      by_cases hz : fclass a w = 1 ∧ fclass b w = 1
      · obtain ⟨fa, _⟩ := odd_false oa
        obtain ⟨fb, _⟩ := odd_false ob
        have m1 := (class_facts fa).2.1.1 hz.1
        have m2 := (class_facts fb).2.1.1 hz.2
        rw [if_pos (decide_eq_true hz)]
        have : sgn3 (ckey a w) (ckey b w) = 0 := by
          unfold sgn3 ckey
          rw [m1, m2]
          cases fsign a w <;> cases fsign b w <;> simp
        simp [this]
      · rw [if_neg (by simpa using hz)]
        have key := less_same a b w oa ob hz
        by_cases e : forder a b w < 0
        · simp [key.2 e, e]
        · have e2 : ¬ sgn3 (ckey a w) (ckey b w) < 0 := fun h => e (key.1 h)
          simp [e, e2]

end Go.Proofs.Ytmmdkjihigadcaa.Pure
