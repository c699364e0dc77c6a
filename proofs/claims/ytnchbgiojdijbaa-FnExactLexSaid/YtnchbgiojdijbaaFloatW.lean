/- A float of 32 bits made one of 64 and back, by their bits: plain arithmetic. No condition. -/
import GoSem.Core.Float
import Derived.Laws.FloatArith
set_option linter.unusedSimpArgs false
set_option linter.unusedVariables false
namespace Go.Proofs.Ytnchbgiojdijbaa.FloatW
open Ieee Go

/-- The 64 bits of a float of 32 bits, both without their sign. -/
def wm (n : Nat) : Nat := if n = 0 then 0 else if n < 8388608 then (n.log2 + 873) * 4503599627370496 + n * 2 ^ (52 - n.log2) else if n < 2139095040 then n * 536870912 + 896 * 4503599627370496 else n * 536870912 + 1792 * 4503599627370496

theorem log2_eq {n k : Nat} (h1 : 2 ^ k ≤ n) (h2 : n < 2 ^ (k + 1)) : n.log2 = k := by
  have hn : n ≠ 0 := by have := Nat.two_pow_pos k; omega
  have a := (Nat.le_log2 hn).2 h1
  have b := (Nat.log2_lt hn).2 h2
  omega
theorem log2_bounds {n : Nat} (hn : n ≠ 0) : 2 ^ n.log2 ≤ n ∧ n < 2 ^ (n.log2 + 1) :=
  ⟨Nat.log2_self_le hn, Nat.lt_log2_self⟩
theorem cut_zero (n : Nat) : Toward.even.cut false n 0 = n := by simp [Toward.cut, Nat.mod_one]
theorem cut_exact (m d : Nat) (hm : m ≠ 0) : Toward.even.cut false (m * 2 ^ d) d = m := by
  have hp := Nat.two_pow_pos d
  have hpos : m * 2 ^ d ≠ 0 := Nat.mul_ne_zero hm (by omega)
  have hle : 2 ^ d ≤ m * 2 ^ d := Nat.le_mul_of_pos_left _ (by omega)
  have hl : d ≤ (m * 2 ^ d).log2 := (Nat.le_log2 hpos).2 hle
  have hmin : min d ((m * 2 ^ d).log2 + 2) = d := by omega
  unfold Toward.cut
  simp only [hmin, Nat.one_shiftLeft, Nat.mul_div_cancel _ hp, Nat.mul_mod_left]
  have : ¬ (2 ^ d = 0) := by omega
  simp [this]

theorem enc64 (mag : Nat) (place : Int) (h0 : mag ≠ 0) (h1 : mag < 16777216) (hp : -149 ≤ place) (hp2 : place ≤ 104) : double.nearest false mag place = (place + mag.log2 + 1022).toNat * 4503599627370496 + mag * 2 ^ (52 - mag.log2) := by
  have hl : mag.log2 < 24 := (Nat.log2_lt h0).2 (by omega)
  obtain ⟨b1, b2⟩ := log2_bounds h0
  have hk : mag * 2 ^ (52 - mag.log2) < 9007199254740992 := by
    have e : (2 : Nat) ^ (mag.log2 + 1) * 2 ^ (52 - mag.log2) = 9007199254740992 := by
      rw [← Nat.pow_add, show mag.log2 + 1 + (52 - mag.log2) = 53 by omega]
    have : mag * 2 ^ (52 - mag.log2) < 2 ^ (mag.log2 + 1) * 2 ^ (52 - mag.log2) := Nat.mul_lt_mul_of_pos_right b2 (Nat.two_pow_pos _)
    omega
  have hlast : max (place + (mag.log2 : Int) - ((52 : Nat) : Int)) (2 - 2 ^ (11 - 1) - ((52 : Nat) : Int)) = place + mag.log2 - 52 := by
    have : (2 : Int) - 2 ^ (11 - 1) - ((52 : Nat) : Int) = -1074 := by decide
    rw [this]; omega
  unfold Format.nearest
  rw [if_neg h0]
  simp only [double, Format.leastPlace, Format.word, Format.infRung, Format.binade, Bool.false_eq_true, if_false]
  rw [hlast]
  rw [show (place - (place + (mag.log2 : Int) - 52)).toNat = 52 - mag.log2 by omega, show ((place + (mag.log2 : Int) - 52) - place).toNat = 0 by omega, cut_zero, Nat.shiftLeft_eq]
  have e : (place + (mag.log2 : Int) - 52 - (2 - 2 ^ (11 - 1) - ((52 : Nat) : Int))).toNat = (place + mag.log2 + 1022).toNat := by
    have : (2 : Int) - 2 ^ (11 - 1) - ((52 : Nat) : Int) = -1074 := by decide
    rw [this]; congr 1; omega
  rw [e]
  have hi : (2 ^ 11 - 1) * 2 ^ 52 = 2047 * 4503599627370496 := by decide
  rw [hi, show (2 : Nat) ^ 52 = 4503599627370496 by decide]
  have hq : (place + (mag.log2 : Int) + 1022).toNat ≤ 1149 := by omega
  rw [Nat.min_eq_left (by omega)]

theorem read32 (n : Nat) (h : n < 2139095040) : single.read n = if n < 8388608 then .number false n (-149) else .number false (8388608 + n % 8388608) (-149 + ((n / 8388608 - 1 : Nat) : Int)) := by
  have sw : single.signWeight = 2147483648 := by decide
  have sb : single.binade = 8388608 := by decide
  have si : single.infRung = 2139095040 := by decide
  have sl : single.leastPlace = -149 := by decide
  unfold Format.read
  simp only [sw, sb, si, sl, Nat.mod_eq_of_lt (show n < 2147483648 by omega), Nat.div_eq_of_lt (show n < 2147483648 by omega)]
  split
  · rfl
  · first | rfl | (rw [if_pos h]; rfl)

/-- To 64 bits. -/
theorem wide (n : Nat) (h : n < 2139095040) : double.write (single.read n) = wm n ∧ (∃ m e, single.read n = .number false m e) := by
  rw [read32 n h]
  unfold wm
  by_cases h0 : n = 0
  · subst h0
    refine ⟨?_, _, _, if_pos (by decide)⟩
    rw [if_pos (by decide), if_pos rfl]
    simp [Format.write, Format.nearest, Format.word]
  · by_cases hs : n < 8388608
    · rw [if_pos hs, if_neg h0, if_pos hs]
      refine ⟨?_, _, _, rfl⟩
      simp only [Format.write]
      rw [enc64 n (-149) h0 (by omega) (by omega) (by omega)]
      congr 2; omega
    · rw [if_neg hs, if_neg h0, if_neg hs, if_pos h]
      refine ⟨?_, _, _, rfl⟩
      have hl : (8388608 + n % 8388608).log2 = 23 := log2_eq (by omega) (by omega)
      simp only [Format.write]
      rw [enc64 _ _ (by omega) (by omega) (by omega) (by omega), hl]
      have e : (-149 + ((n / 8388608 - 1 : Nat) : Int) + ((23 : Nat) : Int) + 1022).toNat = n / 8388608 + 895 := by omega
      rw [e, show (2 : Nat) ^ (52 - 23) = 536870912 by decide]
      omega

theorem wm_lt (n : Nat) (h : n < 2147483648) : wm n < 9223372036854775808 := by
  unfold wm
  split
  · omega
  · split
    · rename_i h0 hs
      have hl : n.log2 < 23 := (Nat.log2_lt h0).2 (by omega)
      obtain ⟨b1, b2⟩ := log2_bounds h0
      have e : (2 : Nat) ^ (n.log2 + 1) * 2 ^ (52 - n.log2) = 9007199254740992 := by
        rw [← Nat.pow_add, show n.log2 + 1 + (52 - n.log2) = 53 by omega]
      have : n * 2 ^ (52 - n.log2) < 2 ^ (n.log2 + 1) * 2 ^ (52 - n.log2) := Nat.mul_lt_mul_of_pos_right b2 (Nat.two_pow_pos _)
      omega
    · split <;> omega
/-- What a small float comes to. -/
theorem wm_small (n : Nat) (h0 : n ≠ 0) (hs : n < 8388608) : wm n / 4503599627370496 = n.log2 + 874 ∧ wm n % 4503599627370496 = n * 2 ^ (52 - n.log2) - 4503599627370496 ∧ 4503599627370496 ≤ n * 2 ^ (52 - n.log2) ∧ n * 2 ^ (52 - n.log2) < 9007199254740992 := by
  have hl : n.log2 < 23 := (Nat.log2_lt h0).2 (by omega)
  obtain ⟨b1, b2⟩ := log2_bounds h0
  have e : (2 : Nat) ^ (n.log2 + 1) * 2 ^ (52 - n.log2) = 9007199254740992 := by
    rw [← Nat.pow_add, show n.log2 + 1 + (52 - n.log2) = 53 by omega]
  have e' : (2 : Nat) ^ n.log2 * 2 ^ (52 - n.log2) = 4503599627370496 := by
    rw [← Nat.pow_add, show n.log2 + (52 - n.log2) = 52 by omega]
  have k2 : n * 2 ^ (52 - n.log2) < 2 ^ (n.log2 + 1) * 2 ^ (52 - n.log2) := Nat.mul_lt_mul_of_pos_right b2 (Nat.two_pow_pos _)
  have k1 : 2 ^ n.log2 * 2 ^ (52 - n.log2) ≤ n * 2 ^ (52 - n.log2) := Nat.mul_le_mul_right _ b1
  have hw : wm n = (n.log2 + 873) * 4503599627370496 + n * 2 ^ (52 - n.log2) := by unfold wm; rw [if_neg h0, if_pos hs]
  rw [hw]
  omega

theorem read64 (w : Nat) (h : w < 2047 * 4503599627370496) (hb : 4503599627370496 ≤ w) : double.read w = .number false (4503599627370496 + w % 4503599627370496) (-1074 + ((w / 4503599627370496 - 1 : Nat) : Int)) := by
  have sw : double.signWeight = 9223372036854775808 := by decide
  have sb : double.binade = 4503599627370496 := by decide
  have si : double.infRung = 2047 * 4503599627370496 := by decide
  have sl : double.leastPlace = -1074 := by decide
  unfold Format.read
  simp only [sw, sb, si, sl, Nat.mod_eq_of_lt (show w < 9223372036854775808 by omega), Nat.div_eq_of_lt (show w < 9223372036854775808 by omega)]
  rw [if_neg (by omega), if_pos h]; rfl

theorem finite_number (w : Nat) (h : w < 2047 * 4503599627370496) : ∃ m e, double.read w = .number false m e := by
  by_cases hb : 4503599627370496 ≤ w
  · exact ⟨_, _, read64 w h hb⟩
  · have sw : double.signWeight = 9223372036854775808 := by decide
    have sb : double.binade = 4503599627370496 := by decide
    unfold Format.read
    simp only [sw, sb, Nat.mod_eq_of_lt (show w < 9223372036854775808 by omega), Nat.div_eq_of_lt (show w < 9223372036854775808 by omega)]
    rw [if_pos (by omega)]
    exact ⟨_, _, rfl⟩
theorem enc32 (m d : Nat) (place : Int) (hm0 : 4194304 ≤ m * 2 ^ d / 536870912) (hm : m ≠ 0) (hl : (m * 2 ^ d).log2 = 52) (hlast : max (place + 29) (-149) = place + d) (hr : (place + d + 149).toNat * 8388608 + m ≤ 2139095040) :
    single.nearest false (m * 2 ^ d) place = (place + d + 149).toNat * 8388608 + m := by
  have hne : m * 2 ^ d ≠ 0 := Nat.mul_ne_zero hm (by have := Nat.two_pow_pos d; omega)
  unfold Format.nearest
  rw [if_neg hne]
  simp only [single, Format.leastPlace, Format.word, Format.infRung, Format.binade, Bool.false_eq_true, if_false]
  have e4 : (2 : Int) - 2 ^ (8 - 1) - ((23 : Nat) : Int) = -149 := by decide
  rw [hl, e4, show place + ((52 : Nat) : Int) - ((23 : Nat) : Int) = place + 29 by omega, hlast, show (place - (place + (d : Int))).toNat = 0 by omega, show ((place + (d : Int)) - place).toNat = d by omega, Nat.shiftLeft_zero, cut_exact m d hm]
  rw [show (place + (d : Int) - -149).toNat = (place + d + 149).toNat by congr 1, show (2 : Nat) ^ 23 = 8388608 by decide, show ((2 : Nat) ^ 8 - 1) * 8388608 = 2139095040 by decide, Nat.min_eq_left hr]

/-- And back. -/
theorem back (n : Nat) (h : n < 2139095040) : single.write (double.read (wm n)) = n ∧ (∃ m e, double.read (wm n) = .number false m e) := by
  by_cases h0 : n = 0
  · subst h0
    refine ⟨?_, 0, -1074, ?_⟩
    · decide +kernel
    · decide +kernel
  · by_cases hs : n < 8388608
    · obtain ⟨q1, q2, q3, q4⟩ := wm_small n h0 hs
      have hl : n.log2 < 23 := (Nat.log2_lt h0).2 (by omega)
      rw [read64 (wm n) (by omega) (by omega), q1, q2]
      refine ⟨?_, _, _, rfl⟩
      simp only [Format.write]
      rw [show 4503599627370496 + (n * 2 ^ (52 - n.log2) - 4503599627370496) = n * 2 ^ (52 - n.log2) by omega]
      have hlg : (n * 2 ^ (52 - n.log2)).log2 = 52 := log2_eq (by omega) (by omega)
      rw [enc32 n (52 - n.log2) _ (by omega) h0 hlg (by omega) (by omega)]
      omega
    · have hw : wm n = n * 536870912 + 896 * 4503599627370496 := by unfold wm; rw [if_neg h0, if_neg hs, if_pos h]
      have q1 : wm n / 4503599627370496 = n / 8388608 + 896 := by omega
      have q2 : wm n % 4503599627370496 = n % 8388608 * 536870912 := by omega
      rw [read64 (wm n) (by omega) (by omega), q1, q2]
      refine ⟨?_, _, _, rfl⟩
      simp only [Format.write]
      have e : 4503599627370496 + n % 8388608 * 536870912 = (8388608 + n % 8388608) * 2 ^ 29 := by
        rw [show (2 : Nat) ^ 29 = 536870912 by decide]; omega
      have hlg : ((8388608 + n % 8388608) * 2 ^ 29).log2 = 52 := by
        rw [← e]; exact log2_eq (by omega) (by omega)
      rw [e, enc32 (8388608 + n % 8388608) 29 _ (by rw [← e]; omega) (by omega) hlg (by omega) (by omega)]
      omega
theorem wide_bits (n : Nat) (h : n < 2139095040) : floatToFloatBits .f32 n .f64 = some (wm n) := by
  obtain ⟨h1, m, e, h2⟩ := wide n h
  obtain ⟨_, m', e', h3⟩ := back n h
  have hd : FloatKind.f32.decode n = .number false m e := h2
  have he : FloatKind.f64.encode (.number false m e) = wm n := by rw [← h2]; exact h1
  have hf : FloatKind.f64.decode (wm n) = .number false m' e' := h3
  unfold floatToFloatBits
  rw [if_neg (by decide)]
  simp only [hd, he, hf, Datum.isInfinity]
  rfl
theorem back_bits (n : Nat) (h : n < 2139095040) : floatToFloatBits .f64 (wm n) .f32 = some n := by
  obtain ⟨_, m, e, h2⟩ := wide n h
  obtain ⟨h1, m', e', h3⟩ := back n h
  have hd : FloatKind.f64.decode (wm n) = .number false m' e' := h3
  have he : FloatKind.f32.encode (.number false m' e') = n := by rw [← h3]; exact h1
  have hf : FloatKind.f32.decode n = .number false m e := h2
  unfold floatToFloatBits
  rw [if_neg (by decide)]
  simp only [hd, he, hf, Datum.isInfinity]
  rfl
/-- Greater floats have greater bits. -/
theorem wm_mono {a b : Nat} (h : a < b) (hb : b < 2147483648) : wm a < wm b := by
  have small : ∀ n : Nat, n ≠ 0 → n < 8388608 → 4503599627370496 ≤ wm n ∧ wm n < 897 * 4503599627370496 := by
    intro n h0 hs
    obtain ⟨q1, q2, q3, q4⟩ := wm_small n h0 hs
    have hl : n.log2 < 23 := (Nat.log2_lt h0).2 (by omega)
    omega
  have big : ∀ n : Nat, ¬ n < 8388608 → 897 * 4503599627370496 ≤ wm n := by
    intro n hs
    unfold wm
    rw [if_neg (by omega), if_neg hs]
    split <;> omega
  by_cases ha : a = 0
  · subst ha
    have : wm 0 = 0 := rfl
    by_cases hs : b < 8388608
    · have := small b (by omega) hs; omega
    · have := big b hs; omega
  · by_cases hs : b < 8388608
    · obtain ⟨p1, p2, p3, p4⟩ := wm_small a ha (by omega)
      obtain ⟨q1, q2, q3, q4⟩ := wm_small b (by omega) hs
      have hle : a.log2 ≤ b.log2 := by
        have h1 := (log2_bounds ha).1
        exact (Nat.le_log2 (by omega)).2 (by omega)
      by_cases e : a.log2 = b.log2
      · rw [← e] at q1 q2 q3 q4
        have : a * 2 ^ (52 - a.log2) < b * 2 ^ (52 - a.log2) := Nat.mul_lt_mul_of_pos_right h (Nat.two_pow_pos _)
        omega
      · omega
    · by_cases hs2 : a < 8388608
      · have := small a ha hs2; have := big b hs; omega
      · unfold wm
        rw [if_neg ha, if_neg hs2, if_neg (show ¬ b = 0 by omega), if_neg hs]
        split <;> split <;> omega
theorem wm_inj {a b : Nat} (ha : a < 2147483648) (hb : b < 2147483648) (h : wm a = wm b) : a = b := by
  rcases Nat.lt_trichotomy a b with h1 | h1 | h1
  · have := wm_mono h1 hb; omega
  · exact h1
  · have := wm_mono h1 ha; omega

end Go.Proofs.Ytnchbgiojdijbaa.FloatW
