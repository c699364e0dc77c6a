/- FnWidened: drawn floats of 32 bits come back of their 64, of one class (small ones become normal), in one order. No condition. -/
import Derived.Test.YtmmdkjihigadcaaPFnWidenedx4
import Derived.Test.YtmmdkjihigadcaaLib
set_option linter.unusedSimpArgs false
set_option linter.unusedVariables false
namespace Go.Proofs.Ytmmdkjihigadcaa.Pure
open Go Go.RowKit Go.Proofs.Ytmmdkjihigadcaa.PFnWidened Go.Proofs.YtmmdkjihigadcaaW.PrintWords Go.Proofs.YtmmdkjihigadcaaW.PrintLast Go.Proofs.YtmmdkjihigadcaaW.PrintMore Go.Proofs.Ytmmdkjihigadcaa.Lib

/-- A cursor that a draw may have: its bytes, its place from 0 on. -/
theorem new_ends (l : List Int) (hlen : l.length ≤ 140737488355328) : ∀ (d k : Nat) (i h : Int), 0 ≤ i → i ≤ l.length → l.length - i = d → d < k → ∃ h', spec_l1New.l0 k l h i = some (l, 0, h') := by
  intro d
  induction d with
  | zero =>
    intro k i h h0 h1 hd hk
    obtain ⟨k, rfl⟩ : ∃ m, k = m + 1 := ⟨k - 1, by omega⟩
    exact ⟨_, by simp only [spec_l1New.l0]; rw [if_neg (by omega)]⟩
  | succ d ih =>
    intro k i h h0 h1 hd hk
    obtain ⟨k, rfl⟩ : ∃ m, k = m + 1 := ⟨k - 1, by omega⟩
    simp only [spec_l1New.l0]
    rw [if_pos (show i < (l.length : Int) by omega)]
    by_cases h4 : i < 4000
    · simp only [if_pos h4, if_pos h0]
      rw [w64 (n := i + 1) (by omega) (by omega)]
      exact ih k (i + 1) _ (by omega) (by omega) (by omega) (by omega)
    · simp only [if_neg h4]
      exact ⟨_, rfl⟩
theorem new_some (l : List Int) (hlen : l.length ≤ 140737488355328) (k : Nat) (hk : l.length < k) : ∃ h, spec_l1New.f k l = some (l, 0, h) := by
  unfold spec_l1New.f
  exact new_ends l hlen l.length k 0 _ (by omega) (by omega) (by omega) hk
theorem byte_some (l : List Int) (hlen : l.length ≤ 140737488355328) (i h : Int) (hi : 0 ≤ i ∧ i ≤ l.length) : ∃ x i' h', spec_l1Byte.f l i h = some (x, i', h') ∧ 0 ≤ x ∧ x ≤ 255 ∧ (0 ≤ i' ∧ i' ≤ l.length) := by
  unfold spec_l1Byte.f
  have a255 : ∀ x : Int, Go.bits .and .i64 x 255 = x % 256 := fun x => and_i64 8 (by decide) x
  simp only [a255]
  split
  · rw [if_pos hi.1]
    exact ⟨_, _, _, rfl, by omega, by omega, by rw [w64 (by omega) (by omega)]; omega⟩
  · exact ⟨_, _, _, rfl, by omega, by omega, hi⟩
/-- What is drawn below n: 0 to n - 1 (0 where n is not above 0). -/
theorem below_some (l : List Int) (hlen : l.length ≤ 140737488355328) (i h n : Int) (hi : 0 ≤ i ∧ i ≤ l.length) : ∃ x i' h', spec_l1Below.f l i h n = some (x, i', h') ∧ 0 ≤ x ∧ (0 < n → x < n) ∧ (n ≤ 0 → x = 0) ∧ (0 ≤ i' ∧ i' ≤ l.length) := by
  unfold spec_l1Below.f
  by_cases h0 : n ≤ 0
  · rw [if_pos h0]; exact ⟨_, _, _, rfl, by omega, by omega, by omega, hi⟩
  · rw [if_neg h0]
    split
    · obtain ⟨x, i', h', e, x0, x1, hi'⟩ := byte_some l hlen i h hi
      rw [e]
      simp only [Option.bind_some]
      rw [if_neg (by omega), Int.tmod_eq_emod_of_nonneg x0]
      exact ⟨_, _, _, rfl, Int.emod_nonneg _ (by omega), fun _ => Int.emod_lt_of_pos _ (by omega), by omega, hi'⟩
    · obtain ⟨x, i1, h1, e1, x0, x1, hi1⟩ := byte_some l hlen i h hi
      obtain ⟨y, i2, h2, e2, y0, y1, hi2⟩ := byte_some l hlen i1 h1 hi1
      obtain ⟨z, i3, h3, e3, z0, z1, hi3⟩ := byte_some l hlen i2 h2 hi2
      rw [e1]
      simp only [Option.bind_some, e2, e3]
      rw [if_neg (by omega), w64 (n := x * 65536) (by omega) (by omega), w64 (n := y * 256) (by omega) (by omega), w64 (n := x * 65536 + y * 256) (by omega) (by omega), w64 (n := x * 65536 + y * 256 + z) (by omega) (by omega), Int.tmod_eq_emod_of_nonneg (by omega)]
      exact ⟨_, _, _, rfl, Int.emod_nonneg _ (by omega), fun _ => Int.emod_lt_of_pos _ (by omega), by omega, hi3⟩

theorem int_some (l : List Int) (hlen : l.length ≤ 140737488355328) (i h : Int) (xs : List Int) (hx : 0 < xs.length) (hi : 0 ≤ i ∧ i ≤ l.length) : ∃ x i' h', spec_l1Int.f l i h xs = some (x, i', h') ∧ x ∈ xs ∧ (0 ≤ i' ∧ i' ≤ l.length) := by
  obtain ⟨j, i', h', e, j0, j1, _, hi'⟩ := below_some l hlen i h (xs.length : Int) hi
  unfold spec_l1Int.f
  rw [e]
  simp only [Option.bind_some]
  rw [if_pos j0, if_pos (j1 (by omega))]
  exact ⟨_, _, _, rfl, rd_mem j0 (j1 (by omega)), hi'⟩

/-- The power and the rest of a float's bits. -/
def fpow (x w : Int) : Int := if w = 32 then x / 8388608 % 256 else x / 4503599627370496 % 2048
def frest (x w : Int) : Int := if w = 32 then x % 8388608 else x % 4503599627370496
def ftop (w : Int) : Int := if w = 32 then 255 else 2047
def fis (x w : Int) : Bool := decide (w = 32 ∧ 0 ≤ x ∧ x ≤ 4294967295 ∨ w = 64)
def fclass (x w : Int) : Int := if fis x w = true then (if fpow x w = 0 then (if frest x w = 0 then 1 else 2) else if fpow x w = ftop w then (if frest x w = 0 then 4 else 5) else 3) else 0
theorem a255 (x : Int) : Go.bits .and .i64 x 255 = x % 256 := and_i64 8 (by decide) x
theorem a2047 (x : Int) : Go.bits .and .i64 x 2047 = x % 2048 := and_i64 11 (by decide) x
theorem a23 (x : Int) : Go.bits .and .i64 x 8388607 = x % 8388608 := and_i64 23 (by decide) x
theorem a52 (x : Int) : Go.bits .and .i64 x 4503599627370495 = x % 4503599627370496 := and_i64 52 (by decide) x
theorem u2047 (x : Int) (h0 : 0 ≤ x) (h1 : x < 18446744073709551616) : Go.bits .and .u64 x 2047 = x % 2048 := and_u64 11 (by decide) x h0 h1
theorem u52 (x : Int) (h0 : 0 ≤ x) (h1 : x < 18446744073709551616) : Go.bits .and .u64 x 4503599627370495 = x % 4503599627370496 := and_u64 52 (by decide) x h0 h1

theorem spec_parts (k : Nat) (x w : Int) (hx : -9223372036854775808 ≤ x ∧ x ≤ 9223372036854775807) :
    spec_l2Parts.f (k + 1) x w = some (if fis x w = true then (if w = 32 then x / 2147483648 else if x < 0 then 1 else 0, fpow x w, frest x w, ftop w, true) else (0, 0, 0, 0, false)) := by
  unfold spec_l2Parts.f spec_l1In.f fis fpow frest ftop
  by_cases h32 : w = 32
  · subst h32
    rw [if_pos rfl]
    by_cases h0 : x ≥ 0
    · rw [if_pos h0]
      simp only [Option.bind_some, spec_l2Parts.j0]
      by_cases h1 : x ≤ 4294967295
      · rw [if_pos (by simpa using h1), a255, a23, if_pos (by simp; omega)]; simp
      · rw [if_neg (by simpa using h1), if_neg (by decide), if_neg (by simp; omega)]
    · rw [if_neg h0]
      simp only [Option.bind_some, spec_l2Parts.j0]
      rw [if_neg (by decide), if_neg (by decide), if_neg (by simp; omega)]
  · rw [if_neg h32]
    simp only [spec_l2Parts.j0]
    by_cases h64 : w = 64
    · subst h64
      rw [if_neg (by decide), if_pos rfl, if_pos (by simp), wu64, u2047 _ (by omega) (by omega), u52 _ (by omega) (by omega)]
      simp only [show ¬ (64 : Int) = 32 by decide, if_false]
      refine congrArg some ?_
      refine Prod.ext ?_ (Prod.ext ?_ (Prod.ext ?_ rfl))
      · simp only
        split
        · rw [w64 (by omega) (by omega)]; omega
        · rw [w64 (by omega) (by omega)]; omega
      · simp only; rw [w64 (by omega) (by omega)]; omega
      · simp only; rw [w64 (by omega) (by omega)]; omega
    · rw [if_neg (by decide), if_neg h64, if_neg (by simp; omega)]

theorem spec_class (k : Nat) (x w : Int) (hx : -9223372036854775808 ≤ x ∧ x ≤ 9223372036854775807) : spec_FloatClass.f (k + 3) x w = some (fclass x w) := by
  unfold spec_FloatClass.f
  rw [spec_parts (k + 2) x w hx]
  unfold fclass
  by_cases h : fis x w = true
  · simp only [h, if_true, Option.bind_some, spec_FloatClass.j0, spec_FloatClass.j1]
    repeat' split
    all_goals simp_all
  · simp only [h, if_false, Option.bind_some, Bool.false_eq_true]

theorem impl_parts (k : Nat) (x w : Int) :
    impl_partsOf.f (k + 1) x w = some (if fis x w = true then (if w = 32 then x / 2147483648 == 1 else decide (x < 0), fpow x w, frest x w, ftop w, true) else (false, 0, 0, 0, false)) := by
  unfold impl_partsOf.f impl_within.f fis fpow frest ftop
  by_cases h32 : w = 32
  · subst h32
    rw [if_pos rfl]
    by_cases h0 : x ≥ 0
    · rw [if_pos h0]
      simp only [Option.bind_some, impl_partsOf.j0]
      by_cases h1 : x ≤ 4294967295
      · rw [if_pos (by simpa using h1), a255, a23, if_pos (by simp; omega)]; simp
      · rw [if_neg (by simpa using h1), if_neg (by decide), if_neg (by simp; omega)]
    · rw [if_neg h0]
      simp only [Option.bind_some, impl_partsOf.j0]
      rw [if_neg (by decide), if_neg (by decide), if_neg (by simp; omega)]
  · rw [if_neg h32]
    simp only [impl_partsOf.j0]
    by_cases h64 : w = 64
    · subst h64
      rw [if_neg (by decide), if_pos rfl, if_pos (by simp), a2047, a52]
      simp only [show ¬ (64 : Int) = 32 by decide, if_false]
    · rw [if_neg (by decide), if_neg h64, if_neg (by simp; omega)]

theorem impl_class (k : Nat) (x w : Int) : impl_FloatClass.f (k + 3) x w = some (fclass x w) := by
  unfold impl_FloatClass.f
  rw [impl_parts (k + 2) x w]
  unfold fclass
  by_cases h : fis x w = true
  · simp only [h, if_true, Option.bind_some, impl_FloatClass.j0, impl_FloatClass.j1]
    repeat' split
    all_goals simp_all
  · simp only [h, if_false, Option.bind_some, Bool.false_eq_true]

/-- A float's bits without the sign, and the sign. -/
def fmag (x w : Int) : Int := if w = 32 then x % 2147483648 else x % 9223372036854775808
def fsign (x w : Int) : Bool := if w = 32 then x / 2147483648 == 1 else decide (x < 0)
/-- The bits of infinity. -/
def finf (w : Int) : Int := if w = 32 then 2139095040 else 9218868437227405312
theorem size_eq (x w : Int) : impl_size.f x w = some (fmag x w, fsign x w) := by
  unfold impl_size.f fmag fsign
  have h1 : Go.bits .and .i64 x 2147483647 = x % 2147483648 := and_i64 31 (by decide) x
  have h2 : Go.bits .and .i64 x 9223372036854775807 = x % 9223372036854775808 := and_i64 63 (by decide) x
  rw [h1, h2]
  split <;> rfl
theorem fis_cases {x w : Int} (h : fis x w = true) : (w = 32 ∧ 0 ≤ x ∧ x ≤ 4294967295) ∨ w = 64 := by
  unfold fis at h
  have := of_decide_eq_true h
  omega
theorem class_zero {x w : Int} (h : ¬ fis x w = true) : fclass x w = 0 := by unfold fclass; rw [if_neg h]
theorem class_facts {x w : Int} (h : fis x w = true) : fclass x w ≠ 0 ∧ (fclass x w = 1 ↔ fmag x w = 0) ∧ (fclass x w = 4 ↔ fmag x w = finf w) ∧ (fclass x w = 5 ↔ finf w < fmag x w) := by
  have hc := fis_cases h
  unfold fclass fmag finf
  rw [if_pos h]
  unfold fpow frest ftop
  rcases hc with ⟨rfl, h0, h1⟩ | rfl
  · simp only [if_true]
    repeat' split
    all_goals refine ⟨by omega, ?_, ?_, ?_⟩ <;> constructor <;> intro _ <;> omega
  · simp only [show ¬ (64 : Int) = 32 by decide, if_false]
    repeat' split
    all_goals refine ⟨by omega, ?_, ?_, ?_⟩ <;> constructor <;> intro _ <;> omega
theorem mag_range (x w : Int) : 0 ≤ fmag x w ∧ fmag x w < 9223372036854775808 := by
  unfold fmag; split <;> omega
/-- Which of two numbers is greater. -/
def sgn3 (a b : Int) : Int := if a < b then -1 else if a > b then 1 else 0
theorem cmp_eq (a b : Int) : cmp_Compare_int.f a b = some (sgn3 a b) := by
  unfold cmp_Compare_int.f cmp_isNaN_int.f sgn3
  simp only [bne_self_eq_false, Option.bind_some, Bool.false_eq_true, if_false]
  repeat' split
  all_goals rfl

/-- The key of the total order. -/
def okey (x w : Int) : Int := if fsign x w = true then -fmag x w - 1 else fmag x w
def forder (a b w : Int) : Int := if fclass a w = 0 then 0 else if fclass b w = 0 then 0 else sgn3 (okey a w) (okey b w)

theorem okey_impl (x w : Int) : impl_FloatOrder_key x w = some (okey x w) := by
  unfold impl_FloatOrder_key okey
  have hm := mag_range x w
  rw [size_eq]
  simp only [Option.bind_some]
  split
  · rw [w64 (n := -fmag x w) (by omega) (by omega), w64 (by omega) (by omega)]
  · rfl
theorem order_impl (k : Nat) (hk : 3 ≤ k) (a b w : Int) : impl_FloatOrder.f k a b w = some (forder a b w) := by
  obtain ⟨k, rfl⟩ : ∃ m, k = m + 3 := ⟨k - 3, by omega⟩
  unfold impl_FloatOrder.f forder
  rw [impl_class k a w, impl_class k b w]
  simp only [Option.bind_some, okey_impl, cmp_eq]
  split
  · rfl
  · split <;> rfl


/-- The key by which floats compare. -/
def ckey (x w : Int) : Int := if fsign x w = true then -fmag x w else fmag x w
theorem ckey_impl (x w : Int) : impl_floatCompare_key x w = some (ckey x w) := by
  unfold impl_floatCompare_key ckey
  have hm := mag_range x w
  rw [size_eq]
  simp only [Option.bind_some]
  split
  · rw [w64 (n := -fmag x w) (by omega) (by omega)]
  · rfl
/-- None, or no number. -/
def fodd (x w : Int) : Bool := decide (fclass x w = 0 ∨ fclass x w = 5)
def fcmp (a b w : Int) : Int × Bool := if fodd a w = true then (0, false) else if fodd b w = true then (0, false) else (sgn3 (ckey a w) (ckey b w), true)
theorem cmp_impl (k : Nat) (hk : 3 ≤ k) (a b w : Int) : impl_floatCompare.f k a b w = some (fcmp a b w) := by
  obtain ⟨k, rfl⟩ : ∃ m, k = m + 3 := ⟨k - 3, by omega⟩
  unfold impl_floatCompare.f fcmp fodd
  rw [impl_class k a w, impl_class k b w]
  simp only [Option.bind_some, ckey_impl, cmp_eq, decide_eq_true_eq]
  by_cases h1 : fclass a w = 0
  · simp [h1]
  · by_cases h2 : fclass a w = 5
    · simp [h2]
    · by_cases h3 : fclass b w = 0
      · simp [h1, h2, h3]
      · by_cases h4 : fclass b w = 5
        · simp [h1, h2, h4]
        · simp [h1, h2, h3, h4]
theorem odd_false {x w : Int} (h : ¬ fodd x w = true) : fis x w = true ∧ fmag x w ≤ finf w := by
  unfold fodd at h
  have h' : ¬ (fclass x w = 0 ∨ fclass x w = 5) := by simpa using h
  have fx : fis x w = true := Classical.byContradiction fun e => h' (.inl (class_zero e))
  refine ⟨fx, ?_⟩
  obtain ⟨_, _, _, h5⟩ := class_facts fx
  omega
/-- A float is its sign and the rest. -/
theorem float_parts {a b w : Int} (ha : fis a w = true) (hb : fis b w = true) (ra : -9223372036854775808 ≤ a ∧ a ≤ 9223372036854775807) (rb : -9223372036854775808 ≤ b ∧ b ≤ 9223372036854775807) (hs : fsign a w = fsign b w) (hm : fmag a w = fmag b w) : a = b := by
  unfold fsign at hs
  unfold fmag at hm
  rcases fis_cases ha with ⟨rfl, h0, h1⟩ | rfl
  · rcases fis_cases hb with ⟨_, h2, h3⟩ | h2
    · simp only [if_true] at hs hm
      have : (a / 2147483648 = 1) ↔ (b / 2147483648 = 1) := by rw [Bool.eq_iff_iff, beq_iff_eq, beq_iff_eq] at hs; exact hs
      omega
    · omega
  · simp only [show ¬ (64 : Int) = 32 by decide, if_false] at hs hm
    have : (a < 0) ↔ (b < 0) := by rw [← decide_eq_true_iff (p := a < 0), ← decide_eq_true_iff (p := b < 0), hs]
    omega

open Go.Proofs.Ytmmdkjihigadcaa.FloatW
/-- Widen, as both tell it. -/
def widen (y : Int) : Int × Bool := if 0 ≤ y ∧ y ≤ 4294967295 then (impl_Widen_w y, true) else (0, false)
theorem impl_widen (k : Nat) (y : Int) : impl_Widen.f (k + 1) y = some (widen y) := by
  unfold widen
  by_cases h : 0 ≤ y ∧ y ≤ 4294967295
  · rw [if_pos h]; exact impl_Widen_wide k y h.1 h.2
  · rw [if_neg h]; exact impl_Widen_not k y h
theorem widen_w (y : Int) (h : 0 ≤ y ∧ y ≤ 4294967295) : impl_Widen_w y = ((wm (y % 2147483648).toNat : Nat) : Int) - y / 2147483648 * 9223372036854775808 := by
  unfold impl_Widen_w
  by_cases hy : 2147483648 ≤ y
  · rw [if_pos hy, show (y - 2147483648).toNat = (y % 2147483648).toNat by omega]; omega
  · rw [if_neg hy, show y.toNat = (y % 2147483648).toNat by omega]; omega

theorem impl_size64 (x : Int) : impl_size.f x 64 = some (x % 9223372036854775808, decide (x < 0)) := by
  unfold impl_size.f
  rw [if_neg (by decide), show Go.bits .and .i64 x 9223372036854775807 = x % 9223372036854775808 from and_i64 63 (by decide) x]
theorem impl_narrow (k : Nat) (x : Int) : impl_Narrow.f (k + 1) x = some (let t := impl_Narrow_try (decide (x < 0)) (x / 4503599627370496 % 2048) (x % 4503599627370496) (x % 9223372036854775808); if widen t = (x, true) then (t, true) else (0, false)) := by
  unfold impl_Narrow.f
  have hf : fis x 64 = true := decide_eq_true (Or.inr rfl)
  have e1 : fpow x 64 = x / 4503599627370496 % 2048 := rfl
  have e2 : frest x 64 = x % 4503599627370496 := rfl
  rw [impl_parts k x 64, if_pos hf]
  simp only [Option.bind_some, show ¬ (64 : Int) = 32 by decide, if_false, e1, e2, impl_size64, impl_widen]
  generalize impl_Narrow_try (decide (x < 0)) (x / 4503599627370496 % 2048) (x % 4503599627370496) (x % 9223372036854775808) = t
  rcases hw : widen t with ⟨a, b⟩
  cases b with
  | false => simp
  | true =>
    simp only [if_true, Prod.mk.injEq, and_true]
    split <;> rfl
theorem try_back (x y : Int) (hy : 0 ≤ y ∧ y ≤ 4294967295) (h : impl_Widen_w y = x) : impl_Narrow_try (decide (x < 0)) (x / 4503599627370496 % 2048) (x % 4503599627370496) (x % 9223372036854775808) = y := by
  have hq : ∀ q : Int, 0 ≤ q ∧ q < 2147483648 → Go.bits .or .i64 (impl_Narrow_out (decide (x < 0))) q = (if x < 0 then 2147483648 else 0) + q := by
    intro q hq
    have e : impl_Narrow_out (decide (x < 0)) = if x < 0 then 2147483648 else 0 := by unfold impl_Narrow_out; simp
    rw [e, bits_or_comm]
    split
    · rw [or_i64 31 _ _ (by omega) (by omega) (by omega) (by omega) (by omega) (by omega)]; omega
    · rw [or_i64 31 _ _ (by omega) (by omega) (by omega) (by omega) (by omega) (by omega)]; omega
  unfold impl_Narrow_try
  have hx := h
  rw [widen_w y hy] at h
  have hwl : wm (y % 2147483648).toNat < 9223372036854775808 := wm_lt _ (by omega)
  by_cases h5 : x / 4503599627370496 % 2048 = 2047
  · rw [if_pos h5]
    have hm : ¬ (y % 2147483648).toNat < 2139095040 := by
      intro hf
      by_cases h0 : (y % 2147483648).toNat = 0
      · have : wm (y % 2147483648).toNat = 0 := by rw [h0]; rfl
        omega
      · by_cases hsm : (y % 2147483648).toNat < 8388608
        · obtain ⟨q1, _⟩ := wm_small _ h0 hsm
          have hl : (y % 2147483648).toNat.log2 < 23 := (Nat.log2_lt h0).2 (by omega)
          omega
        · have hw : wm (y % 2147483648).toNat = (y % 2147483648).toNat * 536870912 + 896 * 4503599627370496 := by unfold wm; rw [if_neg h0, if_neg hsm, if_pos hf]
          omega
    have hw : wm (y % 2147483648).toNat = (y % 2147483648).toNat * 536870912 + 1792 * 4503599627370496 := by unfold wm; rw [if_neg (by omega), if_neg (by omega), if_neg hm]
    have ho : Go.bits .or .i64 2139095040 (x % 4503599627370496 / 536870912) = 2139095040 + x % 4503599627370496 / 536870912 := by
      rw [bits_or_comm, or_i64 23 _ _ (by omega) (by omega) (by omega) (by omega) (by omega) (by omega)]; omega
    rw [ho, hq _ (by omega)]
    split <;> omega
  · rw [if_neg h5]
    obtain ⟨e1, e2⟩ := impl_Narrow_back x y hy.1 hy.2 hx h5
    rw [e1, Option.getD_some, w64 (by omega) (by omega), hq _ (by omega)]
    split <;> omega

theorem less_impl (k : Nat) (hk : 3 ≤ k) (a b w : Int) : impl_FloatLess.f k a b w = some ((fcmp a b w).2 && decide ((fcmp a b w).1 < 0)) := by
  unfold impl_FloatLess.f
  rw [cmp_impl k hk]
  simp only [Option.bind_some]
  cases (fcmp a b w).2 <;> simp
theorem draw_widen (l : List Int) (hlen : l.length ≤ 140737488355328) (k : Nat) (hk : l.length < k) : ∃ a, spec_DrawWiden.f k l = some a ∧ (-9223372036854775808 ≤ a ∧ a ≤ 9223372036854775807) := by
  obtain ⟨h, e⟩ := new_some l hlen k hk
  obtain ⟨o, i1, h1, e1, _, _, _, hi1⟩ := below_some l hlen 0 h 3 (by omega)
  unfold spec_DrawWiden.f spec_l1Once.f spec_l2Draw.f
  rw [e]
  simp only [Option.bind_some, e1]
  by_cases ho : (o == 0) = true
  · rw [if_pos ho]
    obtain ⟨x, i2, h2, e2, a2, b2, _, hi2⟩ := below_some l hlen i1 h1 8388608 hi1
    obtain ⟨y, i3, h3, e3, a3, b3, _, hi3⟩ := below_some l hlen i2 h2 23 hi2
    rw [e2]
    simp only [Option.bind_some, e3]
    rw [if_pos a3]
    refine ⟨_, rfl, ?_⟩
    have hx := b2 (by decide)
    unfold shr
    have hp : (1 : Int) ≤ 2 ^ min y.toNat IntKind.i64.bits := by
      have := pow2_le (show 0 ≤ min y.toNat IntKind.i64.bits by omega)
      simpa using this
    have h3 : 0 ≤ x / 2 ^ min y.toNat IntKind.i64.bits := Int.ediv_nonneg a2 (by omega)
    have h4 : x / 2 ^ min y.toNat IntKind.i64.bits ≤ x := Int.ediv_le_self _ a2
    omega
  · rw [if_neg ho]
    obtain ⟨x, i2, h2, e2, a2, b2, _, hi2⟩ := below_some l hlen i1 h1 16777216 hi1
    obtain ⟨y, i3, h3, e3, a3, hi3⟩ := int_some l hlen i2 h2 [0, 1, 2147483648, 2147483649, 8388607, 8388608, 1065353216, 2139095039, 2139095040, 2139095041, 4286578688, 4286578689, 4294967295, wrap64 (x * 256), 4294967296, (-1)] (by simp) hi2
    simp only [if_true, e2, Option.bind_some, e3]
    refine ⟨y, rfl, ?_⟩
    have hw := w64_range (x * 256)
    simp only [List.mem_cons, List.not_mem_nil, or_false] at a3
    rcases a3 with rfl | rfl | rfl | rfl | rfl | rfl | rfl | rfl | rfl | rfl | rfl | rfl | rfl | rfl | rfl | rfl <;> first | exact hw | omega
theorem at_some (l : List Int) : ∃ v, laws_at.f l 2 = some v := by
  unfold laws_at.f
  split
  · exact ⟨_, rfl⟩
  · exact ⟨_, rfl⟩
theorem class_mag {x w : Int} (h : fis x w = true) : fclass x w = if fmag x w = 0 then 1 else if fmag x w < (if w = 32 then 8388608 else 4503599627370496) then 2 else if fmag x w < finf w then 3 else if fmag x w = finf w then 4 else 5 := by
  have hc := fis_cases h
  unfold fclass fmag finf
  rw [if_pos h]
  unfold fpow frest ftop
  rcases hc with ⟨rfl, h0, h1⟩ | rfl
  · simp only [if_true]
    repeat' split
    all_goals omega
  · simp only [show ¬ (64 : Int) = 32 by decide, if_false]
    repeat' split
    all_goals omega
theorem wm_iff {a b : Nat} (ha : a < 2147483648) (hb : b < 2147483648) : wm a < wm b ↔ a < b := by
  constructor
  · intro h
    rcases Nat.lt_trichotomy a b with h1 | h1 | h1
    · exact h1
    · rw [h1] at h; omega
    · have := wm_mono h1 ha; omega
  · intro h; exact wm_mono h hb
theorem widen_parts (y : Int) (hy : 0 ≤ y ∧ y ≤ 4294967295) : fsign (impl_Widen_w y) 64 = fsign y 32 ∧ fmag (impl_Widen_w y) 64 = ((wm (fmag y 32).toNat : Nat) : Int) ∧ (0 ≤ fmag y 32 ∧ fmag y 32 < 2147483648) := by
  have e := widen_w y hy
  have hwl : wm (y % 2147483648).toNat < 9223372036854775808 := wm_lt _ (by omega)
  have em : fmag y 32 = y % 2147483648 := rfl
  rw [em]
  refine ⟨?_, ?_, by omega⟩
  · show decide (impl_Widen_w y < 0) = (y / 2147483648 == 1)
    by_cases h : y / 2147483648 = 1
    · rw [show (y / 2147483648 == 1) = true from beq_iff_eq.mpr h]; exact decide_eq_true (by omega)
    · rw [show (y / 2147483648 == 1) = false from beq_eq_false_iff_ne.mpr h]; exact decide_eq_false (by omega)
  · show impl_Widen_w y % 9223372036854775808 = _
    omega
theorem widen_class (y : Int) (hy : 0 ≤ y ∧ y ≤ 4294967295) : fclass y 32 ≠ 0 ∧ fclass (impl_Widen_w y) 64 ≠ 0 ∧ (fclass y 32 = 5 ↔ fclass (impl_Widen_w y) 64 = 5) ∧ (fclass y 32 = fclass (impl_Widen_w y) 64 ∨ fclass y 32 = 2 ∧ fclass (impl_Widen_w y) 64 = 3) := by
  obtain ⟨_, hm, hr⟩ := widen_parts y hy
  rw [class_mag (show fis y 32 = true from decide_eq_true (.inl ⟨rfl, hy⟩)), class_mag (show fis (impl_Widen_w y) 64 = true from decide_eq_true (.inr rfl)), hm]
  generalize fmag y 32 = m at *
  obtain ⟨m, rfl⟩ : ∃ n : Nat, m = n := ⟨m.toNat, by omega⟩
  rw [Int.toNat_natCast]
  simp only [show finf 32 = 2139095040 from rfl, show finf 64 = 9218868437227405312 from rfl, show ¬ (64 : Int) = 32 by decide, if_false, if_true]
  have F : (m = 0 → wm m = 0) ∧ (m ≠ 0 → 4503599627370496 ≤ wm m) ∧ (m < 2139095040 → wm m < 9218868437227405312) ∧ (m = 2139095040 → wm m = 9218868437227405312) ∧ (2139095040 < m → 9218868437227405312 < wm m) := by
    by_cases h0 : m = 0
    · subst h0
      have : wm 0 = 0 := rfl
      rw [this]; omega
    · by_cases hs : m < 8388608
      · obtain ⟨q1, q2, q3, q4⟩ := wm_small m h0 hs
        have hl : m.log2 < 23 := (Nat.log2_lt h0).2 (by omega)
        omega
      · by_cases hf : m < 2139095040
        · have hw : wm m = m * 536870912 + 896 * 4503599627370496 := by unfold wm; rw [if_neg h0, if_neg hs, if_pos hf]
          omega
        · have hw : wm m = m * 536870912 + 1792 * 4503599627370496 := by unfold wm; rw [if_neg h0, if_neg hs, if_neg hf]
          omega
  clear hm
  generalize wm m = u at *
  repeat' split
  all_goals omega
theorem keys (a b : Int) (ha : 0 ≤ a ∧ a ≤ 4294967295) (hb : 0 ≤ b ∧ b ≤ 4294967295) :
    sgn3 (okey a 32) (okey b 32) = sgn3 (okey (impl_Widen_w a) 64) (okey (impl_Widen_w b) 64) ∧ sgn3 (ckey a 32) (ckey b 32) = sgn3 (ckey (impl_Widen_w a) 64) (ckey (impl_Widen_w b) 64) := by
  obtain ⟨sa, ma, ra⟩ := widen_parts a ha
  obtain ⟨sb, mb, rb⟩ := widen_parts b hb
  unfold okey ckey
  rw [sa, sb, ma, mb]
  have i1 := wm_iff (a := (fmag a 32).toNat) (b := (fmag b 32).toNat) (by omega) (by omega)
  have i2 := wm_iff (a := (fmag b 32).toNat) (b := (fmag a 32).toNat) (by omega) (by omega)
  have z : wm 0 = 0 := rfl
  have j1 := wm_iff (a := 0) (b := (fmag a 32).toNat) (by omega) (by omega)
  have j2 := wm_iff (a := 0) (b := (fmag b 32).toNat) (by omega) (by omega)
  rw [z] at j1 j2
  generalize wm (fmag a 32).toNat = u at *
  generalize wm (fmag b 32).toNat = v at *
  generalize fmag a 32 = x at *
  generalize fmag b 32 = y at *
  clear ma mb sa sb z ha hb
  unfold sgn3
  cases fsign a 32 <;> cases fsign b 32 <;> simp only [if_true, Bool.false_eq_true, if_false]
  all_goals constructor
  all_goals repeat' split
  all_goals omega
theorem FnWidened : laws_FnWidened.Pure := by
  intro l hl hl2 hb
  refine ⟨l.length + 100, ?_⟩
  unfold laws_FnWidened.f laws_big.f
  simp only [Option.bind_some]
  by_cases hbig : (l.length : Int) > 1048576
  · rw [if_pos (by simpa using hbig)]
  · rw [if_neg (by simpa using hbig)]
    obtain ⟨a, hd, ra⟩ := draw_widen l (by omega) (l.length + 100) (by omega)
    obtain ⟨v, hv⟩ := at_some l
    have hW : ∀ y, impl_Widen.f (l.length + 100) y = some (widen y) := impl_widen (l.length + 99)
    have hC : ∀ x w, impl_FloatClass.f (l.length + 100) x w = some (fclass x w) := impl_class (l.length + 97)
    have hS : spec_FloatClass.f (l.length + 100) a 32 = some (fclass a 32) := spec_class (l.length + 97) a 32 ra
    have hN : ∀ x, impl_Narrow.f (l.length + 100) x = _ := impl_narrow (l.length + 99)
    have hO := fun a b w => order_impl (l.length + 100) (by omega) a b w
    have hL := fun a b w => less_impl (l.length + 100) (by omega) a b w
    have h32 : ∀ x : Int, Go.bits .and .i64 x 4294967295 = x % 4294967296 := and_i64 32 (by decide)
    rw [hd]
    simp only [Option.bind_some, hW, hv, h32]
    generalize hB : wrap64 (wrap64 (a * 7) + wrap64 (v * 65537)) % 4294967296 = b
    have rb : 0 ≤ b ∧ b ≤ 4294967295 := by omega
    by_cases h : 0 ≤ a ∧ a ≤ 4294967295
    · have wa : widen a = (impl_Widen_w a, true) := if_pos h
      have wb : widen b = (impl_Widen_w b, true) := if_pos rb
      rw [wa, wb]
      simp only [if_true, hN, hC, hO, hL, Option.bind_some, try_back _ a h rfl, wa]
      obtain ⟨ca, ca', c5, cc⟩ := widen_class a h
      obtain ⟨cb, cb', c5', _⟩ := widen_class b rb
      obtain ⟨k1, k2⟩ := keys a b h rb
      have ho : forder a b 32 = forder (impl_Widen_w a) (impl_Widen_w b) 64 := by
        unfold forder
        rw [if_neg ca, if_neg cb, if_neg ca', if_neg cb', k1]
      have hc : fcmp a b 32 = fcmp (impl_Widen_w a) (impl_Widen_w b) 64 := by
        have o1 : fodd a 32 = fodd (impl_Widen_w a) 64 := by
          unfold fodd; simp only [ca, ca', false_or, c5]
        have o2 : fodd b 32 = fodd (impl_Widen_w b) 64 := by
          unfold fodd; simp only [cb, cb', false_or, c5']
        unfold fcmp
        rw [o1, o2, k2]
      rw [ho, hc]
      rcases cc with e | ⟨e1, e2⟩
      · rw [if_pos e]; simp
      · rw [if_neg (by omega), if_pos e1, if_pos e2]; simp
    · have wa : widen a = (0, false) := if_neg h
      rw [wa]
      simp only [Bool.false_eq_true, if_false, hS, Option.bind_some]
      have : fclass a 32 = 0 := class_zero (by
        intro e
        have := fis_cases e
        omega)
      rw [this]; rfl

end Go.Proofs.Ytmmdkjihigadcaa.Pure
