/- FnNextFloat: of drawn floats the next one is greater (but of infinity and of what is no number), and nothing but noughts stands between. No condition. -/
import Derived.Test.YtmmdkjihigadcaaPFnNextFloatx3
import Derived.Test.YtmmdkjihigadcaaLib
set_option linter.unusedSimpArgs false
set_option linter.unusedVariables false
namespace Go.Proofs.Ytmmdkjihigadcaa.Pure
open Go Go.RowKit Go.Proofs.Ytmmdkjihigadcaa.PFnNextFloat Go.Proofs.YtmmdkjihigadcaaW.PrintWords Go.Proofs.YtmmdkjihigadcaaW.PrintLast Go.Proofs.YtmmdkjihigadcaaW.PrintMore Go.Proofs.Ytmmdkjihigadcaa.Lib

/-- A cursor that a draw may have: its bytes, its place from 0 on. -/
theorem new_ends (l : List Int) (hlen : l.length ≤ 140737488355328) : ∀ (d k : Nat) (i h : Int), 0 ≤ i → i ≤ l.length → l.length - i = d → d < k → ∃ h', spec_l1New.l0 k l h i = some (l, 0, h') := by
  intro d
  induction d with
  | zero =>
    intro k i h h0 h1 hd hk
    obtain ⟨k, rfl⟩ : ∃ m, k = m + 1 := ⟨k - 1, by omega⟩
    exact ⟨_, by simp only [spec_l1New.l0]; rw [if_neg (by omega)]⟩
  | succ d ih =>
    intro k i h h0 h1 hd hk
    obtain ⟨k, rfl⟩ : ∃ m, k = m + 1 := ⟨k - 1, by omega⟩
    simp only [spec_l1New.l0]
    rw [if_pos (show i < (l.length : Int) by omega)]
    by_cases h4 : i < 4000
    · simp only [if_pos h4, if_pos h0]
      rw [w64 (n := i + 1) (by omega) (by omega)]
      exact ih k (i + 1) _ (by omega) (by omega) (by omega) (by omega)
    · simp only [if_neg h4]
      exact ⟨_, rfl⟩
theorem new_some (l : List Int) (hlen : l.length ≤ 140737488355328) (k : Nat) (hk : l.length < k) : ∃ h, spec_l1New.f k l = some (l, 0, h) := by
  unfold spec_l1New.f
  exact new_ends l hlen l.length k 0 _ (by omega) (by omega) (by omega) hk
theorem byte_some (l : List Int) (hlen : l.length ≤ 140737488355328) (i h : Int) (hi : 0 ≤ i ∧ i ≤ l.length) : ∃ x i' h', spec_l1Byte.f l i h = some (x, i', h') ∧ 0 ≤ x ∧ x ≤ 255 ∧ (0 ≤ i' ∧ i' ≤ l.length) := by
  unfold spec_l1Byte.f
  have a255 : ∀ x : Int, Go.bits .and .i64 x 255 = x % 256 := fun x => and_i64 8 (by decide) x
  simp only [a255]
  split
  · rw [if_pos hi.1]
    exact ⟨_, _, _, rfl, by omega, by omega, by rw [w64 (by omega) (by omega)]; omega⟩
  · exact ⟨_, _, _, rfl, by omega, by omega, hi⟩
/-- What is drawn below n: 0 to n - 1 (0 where n is not above 0). -/
theorem below_some (l : List Int) (hlen : l.length ≤ 140737488355328) (i h n : Int) (hi : 0 ≤ i ∧ i ≤ l.length) : ∃ x i' h', spec_l1Below.f l i h n = some (x, i', h') ∧ 0 ≤ x ∧ (0 < n → x < n) ∧ (n ≤ 0 → x = 0) ∧ (0 ≤ i' ∧ i' ≤ l.length) := by
  unfold spec_l1Below.f
  by_cases h0 : n ≤ 0
  · rw [if_pos h0]; exact ⟨_, _, _, rfl, by omega, by omega, by omega, hi⟩
  · rw [if_neg h0]
    split
    · obtain ⟨x, i', h', e, x0, x1, hi'⟩ := byte_some l hlen i h hi
      rw [e]
      simp only [Option.bind_some]
      rw [if_neg (by omega), Int.tmod_eq_emod_of_nonneg x0]
      exact ⟨_, _, _, rfl, Int.emod_nonneg _ (by omega), fun _ => Int.emod_lt_of_pos _ (by omega), by omega, hi'⟩
    · obtain ⟨x, i1, h1, e1, x0, x1, hi1⟩ := byte_some l hlen i h hi
      obtain ⟨y, i2, h2, e2, y0, y1, hi2⟩ := byte_some l hlen i1 h1 hi1
      obtain ⟨z, i3, h3, e3, z0, z1, hi3⟩ := byte_some l hlen i2 h2 hi2
      rw [e1]
      simp only [Option.bind_some, e2, e3]
      rw [if_neg (by omega), w64 (n := x * 65536) (by omega) (by omega), w64 (n := y * 256) (by omega) (by omega), w64 (n := x * 65536 + y * 256) (by omega) (by omega), w64 (n := x * 65536 + y * 256 + z) (by omega) (by omega), Int.tmod_eq_emod_of_nonneg (by omega)]
      exact ⟨_, _, _, rfl, Int.emod_nonneg _ (by omega), fun _ => Int.emod_lt_of_pos _ (by omega), by omega, hi3⟩

theorem int_some (l : List Int) (hlen : l.length ≤ 140737488355328) (i h : Int) (xs : List Int) (hx : 0 < xs.length) (hi : 0 ≤ i ∧ i ≤ l.length) : ∃ x i' h', spec_l1Int.f l i h xs = some (x, i', h') ∧ x ∈ xs ∧ (0 ≤ i' ∧ i' ≤ l.length) := by
  obtain ⟨j, i', h', e, j0, j1, _, hi'⟩ := below_some l hlen i h (xs.length : Int) hi
  unfold spec_l1Int.f
  rw [e]
  simp only [Option.bind_some]
  rw [if_pos j0, if_pos (j1 (by omega))]
  exact ⟨_, _, _, rfl, rd_mem j0 (j1 (by omega)), hi'⟩

/-- The power and the rest of a float's bits. -/
def fpow (x w : Int) : Int := if w = 32 then x / 8388608 % 256 else x / 4503599627370496 % 2048
def frest (x w : Int) : Int := if w = 32 then x % 8388608 else x % 4503599627370496
def ftop (w : Int) : Int := if w = 32 then 255 else 2047
def fis (x w : Int) : Bool := decide (w = 32 ∧ 0 ≤ x ∧ x ≤ 4294967295 ∨ w = 64)
def fclass (x w : Int) : Int := if fis x w = true then (if fpow x w = 0 then (if frest x w = 0 then 1 else 2) else if fpow x w = ftop w then (if frest x w = 0 then 4 else 5) else 3) else 0
theorem a255 (x : Int) : Go.bits .and .i64 x 255 = x % 256 := and_i64 8 (by decide) x
theorem a2047 (x : Int) : Go.bits .and .i64 x 2047 = x % 2048 := and_i64 11 (by decide) x
theorem a23 (x : Int) : Go.bits .and .i64 x 8388607 = x % 8388608 := and_i64 23 (by decide) x
theorem a52 (x : Int) : Go.bits .and .i64 x 4503599627370495 = x % 4503599627370496 := and_i64 52 (by decide) x
theorem u2047 (x : Int) (h0 : 0 ≤ x) (h1 : x < 18446744073709551616) : Go.bits .and .u64 x 2047 = x % 2048 := and_u64 11 (by decide) x h0 h1
theorem u52 (x : Int) (h0 : 0 ≤ x) (h1 : x < 18446744073709551616) : Go.bits .and .u64 x 4503599627370495 = x % 4503599627370496 := and_u64 52 (by decide) x h0 h1

theorem impl_parts (k : Nat) (x w : Int) :
    impl_partsOf.f (k + 1) x w = some (if fis x w = true then (if w = 32 then x / 2147483648 == 1 else decide (x < 0), fpow x w, frest x w, ftop w, true) else (false, 0, 0, 0, false)) := by
  unfold impl_partsOf.f impl_within.f fis fpow frest ftop
  by_cases h32 : w = 32
  · subst h32
    rw [if_pos rfl]
    by_cases h0 : x ≥ 0
    · rw [if_pos h0]
      simp only [Option.bind_some, impl_partsOf.j0]
      by_cases h1 : x ≤ 4294967295
      · rw [if_pos (by simpa using h1), a255, a23, if_pos (by simp; omega)]; simp
      · rw [if_neg (by simpa using h1), if_neg (by decide), if_neg (by simp; omega)]
    · rw [if_neg h0]
      simp only [Option.bind_some, impl_partsOf.j0]
      rw [if_neg (by decide), if_neg (by decide), if_neg (by simp; omega)]
  · rw [if_neg h32]
    simp only [impl_partsOf.j0]
    by_cases h64 : w = 64
    · subst h64
      rw [if_neg (by decide), if_pos rfl, if_pos (by simp), a2047, a52]
      simp only [show ¬ (64 : Int) = 32 by decide, if_false]
    · rw [if_neg (by decide), if_neg h64, if_neg (by simp; omega)]

theorem impl_class (k : Nat) (x w : Int) : impl_FloatClass.f (k + 3) x w = some (fclass x w) := by
  unfold impl_FloatClass.f
  rw [impl_parts (k + 2) x w]
  unfold fclass
  by_cases h : fis x w = true
  · simp only [h, if_true, Option.bind_some, impl_FloatClass.j0, impl_FloatClass.j1]
    repeat' split
    all_goals simp_all
  · simp only [h, if_false, Option.bind_some, Bool.false_eq_true]

/-- A float's bits without the sign, and the sign. -/
def fmag (x w : Int) : Int := if w = 32 then x % 2147483648 else x % 9223372036854775808
def fsign (x w : Int) : Bool := if w = 32 then x / 2147483648 == 1 else decide (x < 0)
/-- The bits of infinity. -/
def finf (w : Int) : Int := if w = 32 then 2139095040 else 9218868437227405312
theorem size_eq (x w : Int) : impl_size.f x w = some (fmag x w, fsign x w) := by
  unfold impl_size.f fmag fsign
  have h1 : Go.bits .and .i64 x 2147483647 = x % 2147483648 := and_i64 31 (by decide) x
  have h2 : Go.bits .and .i64 x 9223372036854775807 = x % 9223372036854775808 := and_i64 63 (by decide) x
  rw [h1, h2]
  split <;> rfl
theorem fis_cases {x w : Int} (h : fis x w = true) : (w = 32 ∧ 0 ≤ x ∧ x ≤ 4294967295) ∨ w = 64 := by
  unfold fis at h
  have := of_decide_eq_true h
  omega
theorem class_zero {x w : Int} (h : ¬ fis x w = true) : fclass x w = 0 := by unfold fclass; rw [if_neg h]
theorem class_facts {x w : Int} (h : fis x w = true) : fclass x w ≠ 0 ∧ (fclass x w = 1 ↔ fmag x w = 0) ∧ (fclass x w = 4 ↔ fmag x w = finf w) ∧ (fclass x w = 5 ↔ finf w < fmag x w) := by
  have hc := fis_cases h
  unfold fclass fmag finf
  rw [if_pos h]
  unfold fpow frest ftop
  rcases hc with ⟨rfl, h0, h1⟩ | rfl
  · simp only [if_true]
    repeat' split
    all_goals refine ⟨by omega, ?_, ?_, ?_⟩ <;> constructor <;> intro _ <;> omega
  · simp only [show ¬ (64 : Int) = 32 by decide, if_false]
    repeat' split
    all_goals refine ⟨by omega, ?_, ?_, ?_⟩ <;> constructor <;> intro _ <;> omega
theorem mag_range (x w : Int) : 0 ≤ fmag x w ∧ fmag x w < 9223372036854775808 := by
  unfold fmag; split <;> omega
/-- Which of two numbers is greater. -/
def sgn3 (a b : Int) : Int := if a < b then -1 else if a > b then 1 else 0
theorem cmp_eq (a b : Int) : cmp_Compare_int.f a b = some (sgn3 a b) := by
  unfold cmp_Compare_int.f cmp_isNaN_int.f sgn3
  simp only [bne_self_eq_false, Option.bind_some, Bool.false_eq_true, if_false]
  repeat' split
  all_goals rfl

/-- The key of the total order. -/
def okey (x w : Int) : Int := if fsign x w = true then -fmag x w - 1 else fmag x w
def forder (a b w : Int) : Int := if fclass a w = 0 then 0 else if fclass b w = 0 then 0 else sgn3 (okey a w) (okey b w)

theorem okey_impl (x w : Int) : impl_FloatOrder_key x w = some (okey x w) := by
  unfold impl_FloatOrder_key okey
  have hm := mag_range x w
  rw [size_eq]
  simp only [Option.bind_some]
  split
  · rw [w64 (n := -fmag x w) (by omega) (by omega), w64 (by omega) (by omega)]
  · rfl
theorem order_impl (k : Nat) (hk : 3 ≤ k) (a b w : Int) : impl_FloatOrder.f k a b w = some (forder a b w) := by
  obtain ⟨k, rfl⟩ : ∃ m, k = m + 3 := ⟨k - 3, by omega⟩
  unfold impl_FloatOrder.f forder
  rw [impl_class k a w, impl_class k b w]
  simp only [Option.bind_some, okey_impl, cmp_eq]
  split
  · rfl
  · split <;> rfl


/-- The key by which floats compare. -/
def ckey (x w : Int) : Int := if fsign x w = true then -fmag x w else fmag x w
theorem ckey_impl (x w : Int) : impl_floatCompare_key x w = some (ckey x w) := by
  unfold impl_floatCompare_key ckey
  have hm := mag_range x w
  rw [size_eq]
  simp only [Option.bind_some]
  split
  · rw [w64 (n := -fmag x w) (by omega) (by omega)]
  · rfl
/-- None, or no number. -/
def fodd (x w : Int) : Bool := decide (fclass x w = 0 ∨ fclass x w = 5)
def fcmp (a b w : Int) : Int × Bool := if fodd a w = true then (0, false) else if fodd b w = true then (0, false) else (sgn3 (ckey a w) (ckey b w), true)
theorem cmp_impl (k : Nat) (hk : 3 ≤ k) (a b w : Int) : impl_floatCompare.f k a b w = some (fcmp a b w) := by
  obtain ⟨k, rfl⟩ : ∃ m, k = m + 3 := ⟨k - 3, by omega⟩
  unfold impl_floatCompare.f fcmp fodd
  rw [impl_class k a w, impl_class k b w]
  simp only [Option.bind_some, ckey_impl, cmp_eq, decide_eq_true_eq]
  by_cases h1 : fclass a w = 0
  · simp [h1]
  · by_cases h2 : fclass a w = 5
    · simp [h2]
    · by_cases h3 : fclass b w = 0
      · simp [h1, h2, h3]
      · by_cases h4 : fclass b w = 5
        · simp [h1, h2, h4]
        · simp [h1, h2, h3, h4]
theorem odd_false {x w : Int} (h : ¬ fodd x w = true) : fis x w = true ∧ fmag x w ≤ finf w := by
  unfold fodd at h
  have h' : ¬ (fclass x w = 0 ∨ fclass x w = 5) := by simpa using h
  have fx : fis x w = true := Classical.byContradiction fun e => h' (.inl (class_zero e))
  refine ⟨fx, ?_⟩
  obtain ⟨_, _, _, h5⟩ := class_facts fx
  omega
/-- A float is its sign and the rest. -/
theorem float_parts {a b w : Int} (ha : fis a w = true) (hb : fis b w = true) (ra : -9223372036854775808 ≤ a ∧ a ≤ 9223372036854775807) (rb : -9223372036854775808 ≤ b ∧ b ≤ 9223372036854775807) (hs : fsign a w = fsign b w) (hm : fmag a w = fmag b w) : a = b := by
  unfold fsign at hs
  unfold fmag at hm
  rcases fis_cases ha with ⟨rfl, h0, h1⟩ | rfl
  · rcases fis_cases hb with ⟨_, h2, h3⟩ | h2
    · simp only [if_true] at hs hm
      have : (a / 2147483648 = 1) ↔ (b / 2147483648 = 1) := by rw [Bool.eq_iff_iff, beq_iff_eq, beq_iff_eq] at hs; exact hs
      omega
    · omega
  · simp only [show ¬ (64 : Int) = 32 by decide, if_false] at hs hm
    have : (a < 0) ↔ (b < 0) := by rw [← decide_eq_true_iff (p := a < 0), ← decide_eq_true_iff (p := b < 0), hs]
    omega

theorem next_impl (k : Nat) (hk : 5 ≤ k) (x w : Int) : impl_FloatNext.f k x w = some (if fclass x w = 0 ∨ fclass x w = 5 then x else if fclass x w = 1 then 1 else if fclass x w = 4 then (if fsign x w = true then wrap64 (x - 1) else x) else if fsign x w = true then wrap64 (x - 1) else wrap64 (x + 1)) := by
  obtain ⟨k, rfl⟩ : ∃ m, k = m + 3 := ⟨k - 3, by omega⟩
  unfold impl_FloatNext.f
  rw [size_eq, impl_class k x w]
  simp only [Option.bind_some]
  generalize fclass x w = c
  generalize fsign x w = s
  by_cases c0 : c = 0
  · subst c0; simp [impl_FloatNext.j0]
  · rw [if_neg c0]
    by_cases c5 : c = 5
    · subst c5; simp [impl_FloatNext.j0]
    · rw [show (c == 5) = false from beq_eq_false_iff_ne.mpr c5]
      simp only [impl_FloatNext.j0, Bool.false_eq_true, if_false, c0, c5, or_self]
      repeat' split
      all_goals rfl
theorem less_impl (k : Nat) (hk : 3 ≤ k) (a b w : Int) : impl_FloatLess.f k a b w = some ((fcmp a b w).2 && decide ((fcmp a b w).1 < 0)) := by
  unfold impl_FloatLess.f
  rw [cmp_impl k hk]
  simp only [Option.bind_some]
  cases (fcmp a b w).2 <;> simp
theorem equal_impl (k : Nat) (hk : 3 ≤ k) (a b w : Int) : impl_FloatEqual.f k a b w = some ((fcmp a b w).2 && ((fcmp a b w).1 == 0)) := by
  unfold impl_FloatEqual.f
  rw [cmp_impl k hk]
  simp only [Option.bind_some]
  cases (fcmp a b w).2 <;> simp
/-- The signs and sizes of a float and of the next one. -/
theorem next_parts (x w : Int) (hx : -9223372036854775808 ≤ x ∧ x ≤ 9223372036854775807) (h : fis x w = true) (h5 : ¬ finf w < fmag x w) :
    (fmag x w = 0 → fis 1 w = true ∧ fmag 1 w = 1 ∧ fsign 1 w = false ∧ 1 ≠ x) ∧
    (fmag x w ≠ 0 → fsign x w = true → wrap64 (x - 1) = x - 1 ∧ fis (x - 1) w = true ∧ fmag (x - 1) w = fmag x w - 1 ∧ fsign (x - 1) w = true ∧ x - 1 ≠ x) ∧
    (fmag x w ≠ 0 → fsign x w = false → fmag x w ≠ finf w → wrap64 (x + 1) = x + 1 ∧ fis (x + 1) w = true ∧ fmag (x + 1) w = fmag x w + 1 ∧ fsign (x + 1) w = false ∧ x + 1 ≠ x) := by
  unfold finf fmag fsign at *
  rcases fis_cases h with ⟨rfl, h0, h1⟩ | rfl
  · simp only [if_true, beq_iff_eq, beq_eq_false_iff_ne] at *
    refine ⟨?_, ?_, ?_⟩
    · intro hm
      refine ⟨by simp [fis], by omega, by omega, by omega⟩
    · intro hm hs
      refine ⟨w64 (by omega) (by omega), by unfold fis; exact decide_eq_true (by omega), by omega, by omega, by omega⟩
    · intro hm hs hi
      refine ⟨w64 (by omega) (by omega), by unfold fis; exact decide_eq_true (by omega), by omega, by omega, by omega⟩
  · simp only [show ¬ (64 : Int) = 32 by decide, if_false, decide_eq_true_eq, decide_eq_false_iff_not] at *
    refine ⟨?_, ?_, ?_⟩
    · intro hm
      refine ⟨by simp [fis], by omega, by omega, by omega⟩
    · intro hm hs
      refine ⟨w64 (by omega) (by omega), by simp [fis], by omega, by omega, by omega⟩
    · intro hm hs hi
      refine ⟨w64 (by omega) (by omega), by simp [fis], by omega, by omega, by omega⟩
theorem finf_range (w : Int) : 1 < finf w ∧ finf w < 9223372036854775807 := by unfold finf; split <;> omega
theorem odd_of {x w : Int} (h : fis x w = true) (hm : fmag x w ≤ finf w) : ¬ fodd x w = true := by
  obtain ⟨h0, _, _, h5⟩ := class_facts h
  unfold fodd
  intro e
  have := of_decide_eq_true e
  omega
theorem cmp_of {a b w : Int} (ha : fis a w = true) (hb : fis b w = true) (ma : fmag a w ≤ finf w) (mb : fmag b w ≤ finf w) : fcmp a b w = (sgn3 (ckey a w) (ckey b w), true) := by
  unfold fcmp
  rw [if_neg (odd_of ha ma), if_neg (odd_of hb mb)]
theorem order_of {a b w : Int} (ha : fis a w = true) (hb : fis b w = true) : forder a b w = sgn3 (okey a w) (okey b w) := by
  unfold forder
  rw [if_neg (class_facts ha).1, if_neg (class_facts hb).1]
theorem draw_next (l : List Int) (hlen : l.length ≤ 140737488355328) (k : Nat) (hk : l.length < k) : ∃ a w, spec_DrawFloatNext.f k l = some (a, w) ∧ (-9223372036854775808 ≤ a ∧ a ≤ 9223372036854775807) := by
  obtain ⟨h, e⟩ := new_some l hlen k hk
  obtain ⟨w, i1, h1, e1, _, hi1⟩ := int_some l hlen 0 h [32, 64, 32, 64, 32, 64, 16, 0] (by decide) (by omega)
  unfold spec_DrawFloatNext.f spec_l2Width.f spec_l2Draw.f
  rw [e]
  simp only [Option.bind_some, e1]
  by_cases h32 : w = 32
  · obtain ⟨x, i2, h2, e2, a2, b2, _, hi2⟩ := below_some l hlen i1 h1 16777216 hi1
    obtain ⟨y, i3, h3, e3, a3, hi3⟩ := int_some l hlen i2 h2 [0, 1, 2147483648, 2147483649, 8388607, 8388608, 1065353216, 2139095039, 2139095040, 2139095041, 4286578688, 4286578689, 4294967295, wrap64 (x * 256), 4294967296, (-1)] (by simp) hi2
    rw [if_pos h32, e2]
    simp only [Option.bind_some, e3]
    refine ⟨y, w, rfl, ?_⟩
    have hw := w64_range (x * 256)
    simp only [List.mem_cons, List.not_mem_nil, or_false] at a3
    rcases a3 with rfl | rfl | rfl | rfl | rfl | rfl | rfl | rfl | rfl | rfl | rfl | rfl | rfl | rfl | rfl | rfl <;> first | exact hw | omega
  · obtain ⟨x, i2, h2, e2, a2, b2, _, hi2⟩ := below_some l hlen i1 h1 16777216 hi1
    obtain ⟨z, i4, h4, e4, a4, b4, _, hi4⟩ := below_some l hlen i2 h2 64 hi2
    obtain ⟨y, i3, h3, e3, a3, hi3⟩ := int_some l hlen i4 h4 [0, 1, (-9223372036854775808), (-9223372036854775807), 4503599627370495, 4503599627370496, 4607182418800017408, 9218868437227405311, 9218868437227405312, 9218868437227405313, (-4503599627370496), (-4503599627370495), (-1), 9223372036854775807, wrap64 (x * 549755813888), wrap64 (3936146074321813504 + (wrap64 (z * 4503599627370496)))] (by simp) hi4
    rw [if_neg h32, e2]
    simp only [Option.bind_some, e4, e3]
    refine ⟨y, w, rfl, ?_⟩
    have hw := w64_range (x * 549755813888)
    have hw2 := w64_range (3936146074321813504 + (wrap64 (z * 4503599627370496)))
    simp only [List.mem_cons, List.not_mem_nil, or_false] at a3
    rcases a3 with rfl | rfl | rfl | rfl | rfl | rfl | rfl | rfl | rfl | rfl | rfl | rfl | rfl | rfl | rfl | rfl <;> first | exact hw | exact hw2 | omega
theorem tail_ok (k : Nat) (hk : 5 ≤ k) (a w n c : Int) (ha : fis a w = true) (hn : fis n w = true) (ma : fmag a w ≤ finf w) (mn : fmag n w ≤ finf w) (hne : n ≠ a)
    (hc : ckey a w < ckey n w) (ho : okey a w < okey n w) : laws_FnNextFloat.j0 k a w n c false = some true := by
  obtain ⟨k, rfl⟩ : ∃ m, k = m + 4 := ⟨k - 4, by omega⟩
  simp only [laws_FnNextFloat.j0, Bool.false_eq_true, if_false]
  rw [if_neg hne, less_impl _ (by omega), equal_impl _ (by omega), equal_impl _ (by omega), order_impl _ (by omega), order_impl _ (by omega), cmp_of ha hn ma mn, cmp_of ha ha ma ma, order_of ha hn, order_of hn ha]
  have e1 : sgn3 (ckey a w) (ckey n w) = -1 := by unfold sgn3; rw [if_pos hc]
  have e2 : sgn3 (okey a w) (okey n w) = -1 := by unfold sgn3; rw [if_pos ho]
  have e3 : sgn3 (okey n w) (okey a w) = 1 := by unfold sgn3; rw [if_neg (by omega), if_pos ho]
  have e4 : sgn3 (ckey a w) (ckey a w) = 0 := by unfold sgn3; simp
  rw [e1, e2, e3, e4]
  simp
theorem FnNextFloat : laws_FnNextFloat.Pure := by
  intro l hl hl2 hb
  refine ⟨l.length + 100, ?_⟩
  unfold laws_FnNextFloat.f laws_big.f
  simp only [Option.bind_some]
  by_cases hbig : (l.length : Int) > 1048576
  · rw [if_pos (by simpa using hbig)]
  · rw [if_neg (by simpa using hbig)]
    obtain ⟨a, w, hd, ra⟩ := draw_next l (by omega) (l.length + 100) (by omega)
    have hcl : impl_FloatClass.f (l.length + 100) a w = some (fclass a w) := impl_class (l.length + 97) a w
    rw [hd]
    simp only [Option.bind_some, next_impl _ (show 5 ≤ l.length + 100 by omega), hcl]
    by_cases h0 : fclass a w = 0
    · rw [if_pos h0, if_pos (.inl h0)]
      simp [laws_FnNextFloat.j0]
    · rw [if_neg h0]
      by_cases h5 : fclass a w = 5
      · rw [if_pos (.inr h5), show (fclass a w == 5) = true from beq_iff_eq.mpr h5]
        simp [laws_FnNextFloat.j0]
      · rw [if_neg (by omega), show (fclass a w == 5) = false from beq_eq_false_iff_ne.mpr h5]
        have fa : fis a w = true := Classical.byContradiction fun h => h0 (class_zero h)
        obtain ⟨_, c1, c4, c5⟩ := class_facts fa
        have m5 : ¬ finf w < fmag a w := fun h => h5 (c5.2 h)
        obtain ⟨p1, p2, p3⟩ := next_parts a w ra fa m5
        have hr := mag_range a w
        have hf := finf_range w
        by_cases h1 : fclass a w = 1
        · obtain ⟨q1, q2, q3, q4⟩ := p1 (c1.1 h1)
          rw [if_pos h1]
          have hm := c1.1 h1
          refine tail_ok _ (by omega) a w 1 _ fa q1 (by omega) (by omega) q4 ?_ ?_
          · unfold ckey; rw [q3, q2, hm]; cases fsign a w <;> simp
          · unfold okey; rw [q3, q2, hm]; cases fsign a w <;> simp
        · rw [if_neg h1]
          have hm : fmag a w ≠ 0 := fun h => h1 (c1.2 h)
          cases hs : fsign a w with
          | true =>
            obtain ⟨q1, q2, q3, q4, q5⟩ := p2 hm hs
            have go : laws_FnNextFloat.j0 (l.length + 100) a w (a - 1) (fclass a w) false = some true := by
              refine tail_ok _ (by omega) a w (a - 1) _ fa q2 (by omega) (by omega) q5 ?_ ?_
              · unfold ckey; rw [hs, q4, q3]; simp <;> omega
              · unfold okey; rw [hs, q4, q3]; simp; omega
            simp only [if_true, q1]
            split <;> exact go
          | false =>
            simp only [Bool.false_eq_true, if_false]
            by_cases h4 : fclass a w = 4
            · rw [if_pos h4]
              simp only [laws_FnNextFloat.j0, Bool.false_eq_true, if_false, if_true]
              rw [if_pos h4, less_impl _ (by omega)]
              have f0 : fis 0 w = true := by
                unfold fis
                rcases fis_cases fa with ⟨rfl, _, _⟩ | rfl <;> simp
              have m0 : fmag 0 w = 0 := by unfold fmag; split <;> rfl
              have s0 : fsign 0 w = false := by unfold fsign; split <;> rfl
              rw [cmp_of fa f0 (by omega) (by omega)]
              have e : sgn3 (ckey a w) (ckey 0 w) = 1 := by
                unfold sgn3 ckey; rw [hs, s0, m0]; simp; omega
              rw [e]; simp
            · rw [if_neg h4]
              obtain ⟨q1, q2, q3, q4, q5⟩ := p3 hm hs (fun h => h4 (c4.2 h))
              rw [q1]
              have m4 : fmag a w ≠ finf w := fun h => h4 (c4.2 h)
              refine tail_ok _ (by omega) a w (a + 1) _ fa q2 (by omega) (by omega) q5 ?_ ?_
              · unfold ckey; rw [hs, q4, q3]; simp <;> omega
              · unfold okey; rw [hs, q4, q3]; simp <;> omega

end Go.Proofs.Ytmmdkjihigadcaa.Pure
