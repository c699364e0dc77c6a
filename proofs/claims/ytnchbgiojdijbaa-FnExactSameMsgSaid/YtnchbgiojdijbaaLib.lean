/- Small facts about Go's integers, bits and lists that the pure proofs share. No condition. -/
import Derived.Test.YtnchbgiojdijbaaWMore
import Derived.Laws.BitsLemmas
import Derived.Test.YtnchbgiojdijbaaWSized
set_option linter.unusedSimpArgs false
set_option linter.unusedVariables false
namespace Go.Proofs.Ytnchbgiojdijbaa.Lib
open Go Go.RowKit Go.Proofs.YtnchbgiojdijbaaW.PrintWords Go.Proofs.YtnchbgiojdijbaaW.PrintLast Go.Proofs.YtnchbgiojdijbaaW.PrintMore

theorem wf_i64 {a : Int} (h : (Lit.int .i64 a).wf = true) : -9223372036854775808 ≤ a ∧ a ≤ 9223372036854775807 := by
  simpa [Lit.wf, IntKind.min, IntKind.max, IntKind.signed, IntKind.bits] using h
theorem wf_u8 {a : Int} (h : (Lit.int .u8 a).wf = true) : 0 ≤ a ∧ a ≤ 255 := by
  simpa [Lit.wf, IntKind.min, IntKind.max, IntKind.signed, IntKind.bits] using h
theorem w64 {n : Int} (h1 : -9223372036854775808 ≤ n) (h2 : n ≤ 9223372036854775807) : wrap64 n = n := by unfold wrap64; omega
theorem w64_range (n : Int) : -9223372036854775808 ≤ wrap64 n ∧ wrap64 n ≤ 9223372036854775807 := by unfold wrap64; omega
theorem wu64 (n : Int) : IntKind.u64.wrap n = n % 18446744073709551616 := by simp [IntKind.wrap, IntKind.bits, IntKind.signed]
theorem wu64_id {n : Int} (h1 : 0 ≤ n) (h2 : n < 18446744073709551616) : IntKind.u64.wrap n = n := by rw [wu64]; omega
theorem wi64 (n : Int) : IntKind.i64.wrap n = wrap64 n := by unfold wrap64; exact IntKind.wrap_i64 n
theorem wraps_u64 (n : Int) (h₀ : 0 ≤ n) (h₁ : n < 2 ^ 64) : IntKind.u64.wrap n = n := by rw [wu64]; omega
theorem wraps_i64 (n : Int) (h₀ : 0 ≤ n) (h₁ : n < 2 ^ 63) : IntKind.i64.wrap n = n := by rw [wi64]; unfold wrap64; omega

theorem bits_or_comm (k : IntKind) (x y : Int) : Go.bits .or k x y = Go.bits .or k y x := by
  simp only [Go.bits, BitVec.or_comm]
theorem bits_and_comm (k : IntKind) (x y : Int) : Go.bits .and k x y = Go.bits .and k y x := by
  simp only [Go.bits, BitVec.and_comm]

/-- A mask of low bits, at a signed number of 64 bits. -/
theorem and_i64 (j : Nat) (hj : j ≤ 63) (x : Int) : Go.bits .and .i64 x (2 ^ j - 1) = x % 2 ^ j := by
  have hpos : 0 < 2 ^ j := Nat.two_pow_pos j
  have hle : 2 ^ j ≤ 2 ^ 63 := Nat.pow_le_pow_right (by decide) hj
  have hc : ((2 : Int) ^ j - 1) = ((2 ^ j - 1 : Nat) : Int) := by rw [Int.natCast_sub hpos]; simp
  have hm : (2 ^ j - 1) % 2 ^ 64 = 2 ^ j - 1 := Nat.mod_eq_of_lt (by omega)
  have hd : (2 : Int) ^ j ∣ 2 ^ 64 := by
    have : (2 : Int) ^ 64 = 2 ^ j * 2 ^ (64 - j) := by rw [← Int.pow_add, Nat.add_sub_cancel' (by omega)]
    exact ⟨_, this⟩
  have hx : (((BitVec.ofInt 64 x).toNat : Nat) : Int) = x % 2 ^ 64 := by
    rw [BitVec.toNat_ofInt]
    have : 0 ≤ x % ((2 ^ 64 : Nat) : Int) := Int.emod_nonneg _ (by decide)
    rw [Int.toNat_of_nonneg this]; rfl
  rw [hc]
  show IntKind.wrap .i64 (((BitVec.ofInt 64 x &&& BitVec.ofInt 64 ((2 ^ j - 1 : Nat) : Int)).toNat : Nat) : Int) = x % 2 ^ j
  rw [BitVec.ofInt_natCast, BitVec.toNat_and, BitVec.toNat_ofNat, hm, Nat.and_two_pow_sub_one_eq_mod]
  have hcast : (((BitVec.ofInt 64 x).toNat % 2 ^ j : Nat) : Int) = x % 2 ^ j := by
    rw [Int.natCast_emod, hx]
    simp only [Int.natCast_pow, Int.cast_ofNat_Int]
    exact Int.emod_emod_of_dvd x hd
  have h0 : 0 ≤ x % (2 : Int) ^ j := Int.emod_nonneg _ (by have : (0:Int) < 2 ^ j := Int.pow_pos (by decide); omega)
  have h1 : x % (2 : Int) ^ j < 2 ^ j := Int.emod_lt_of_pos _ (Int.pow_pos (by decide))
  have h2 : (2 : Int) ^ j ≤ 2 ^ 63 := by exact_mod_cast hle
  rw [hcast]
  exact wraps_i64 _ h0 (by omega)

theorem and_u64 (j : Nat) (hj : j ≤ 64) (x : Int) (h0 : 0 ≤ x) (h1 : x < 18446744073709551616) : Go.bits .and .u64 x (2 ^ j - 1) = x % 2 ^ j :=
  bits_mask .u64 64 (by decide) wraps_u64 j hj x h0 (by omega)
theorem and_u8 (j : Nat) (hj : j ≤ 8) (x : Int) (h0 : 0 ≤ x) (h1 : x < 256) : Go.bits .and .u8 x (2 ^ j - 1) = x % 2 ^ j :=
  bits_mask .u8 8 (by decide) wraps_u8 j hj x h0 (by omega)
theorem or_u64 (i : Nat) (x y : Int) (hx : 0 ≤ x) (hx1 : x < 2 ^ i) (hy : 0 ≤ y) (hy1 : y < 18446744073709551616) (hm : y % 2 ^ i = 0) (hi : x < 18446744073709551616) : Go.bits .or .u64 x y = x + y := by
  rw [bits_or_comm, bits_join .u64 64 (by decide) wraps_u64 i y x hy hm (by omega) hx hx1 (by omega)]
  omega
theorem or_i64 (i : Nat) (x y : Int) (hx : 0 ≤ x) (hx1 : x < 2 ^ i) (hy : 0 ≤ y) (hy1 : y < 9223372036854775808) (hm : y % 2 ^ i = 0) (hi : x < 9223372036854775808) : Go.bits .or .i64 x y = x + y := by
  rw [bits_or_comm, bits_join .i64 63 (by decide) wraps_i64 i y x hy hm (by omega) hx hx1 (by omega)]
  omega

theorem toNat_i64 (x : Int) : ((BitVec.ofInt 64 x).toNat : Int) = x % 18446744073709551616 := by
  rw [BitVec.toNat_ofInt, Int.toNat_of_nonneg (Int.emod_nonneg _ (by decide))]; rfl
theorem xor_zero_i64 (x : Int) (h1 : -9223372036854775808 ≤ x) (h2 : x ≤ 9223372036854775807) : Go.bits .xor .i64 x 0 = x := by
  show IntKind.wrap .i64 (((BitVec.ofInt 64 x ^^^ BitVec.ofInt 64 0).toNat : Nat) : Int) = x
  rw [show BitVec.ofInt 64 0 = 0#64 from rfl, BitVec.xor_zero, toNat_i64, wi64]
  unfold wrap64
  omega
theorem xor_ones_i64 (x : Int) (h1 : -9223372036854775808 ≤ x) (h2 : x ≤ 9223372036854775807) : Go.bits .xor .i64 x (-1) = -1 - x := by
  show IntKind.wrap .i64 (((BitVec.ofInt 64 x ^^^ BitVec.ofInt 64 (-1)).toNat : Nat) : Int) = -1 - x
  have hl := (BitVec.ofInt 64 x).isLt
  have ht := toNat_i64 x
  rw [show BitVec.ofInt 64 (-1) = BitVec.allOnes 64 by decide, BitVec.xor_allOnes, BitVec.toNat_not, wi64]
  unfold wrap64
  omega
theorem or128 (x : Int) (h0 : 0 ≤ x) (h1 : x < 256) : Go.bits .or .u8 x 128 = x % 128 + 128 := by
  obtain ⟨n, rfl⟩ := Int.eq_ofNat_of_zero_le h0
  have hn : n < 256 := by omega
  have key : ∀ m : Fin 256, Go.bits .or .u8 ((m.val : Nat) : Int) 128 = ((m.val : Nat) : Int) % 128 + 128 := by decide +kernel
  exact key ⟨n, hn⟩

theorem powb_le (b : Nat) (hb : 0 < b) {i n : Nat} (h : i ≤ n) : ((b : Nat) : Int) ^ i ≤ ((b : Nat) : Int) ^ n := by
  rw [← Int.natCast_pow, ← Int.natCast_pow]
  exact Int.ofNat_le.2 (Nat.pow_le_pow_right hb h)
theorem pow256_le {i n : Nat} (h : i ≤ n) : (256 : Int) ^ i ≤ 256 ^ n := powb_le 256 (by decide) h
theorem pow2_le {i n : Nat} (h : i ≤ n) : (2 : Int) ^ i ≤ 2 ^ n := powb_le 2 (by decide) h

/-! ### reading a list -/
theorem rd_nat (xs : List Int) (i : Nat) (h : i < xs.length) : rd xs (i : Int) = xs[i] := by
  simp [rd, List.getD_eq_getElem?_getD, List.getElem?_eq_getElem h]
theorem rd_mem {xs : List Int} {i : Int} (h0 : 0 ≤ i) (h : i < xs.length) : rd xs i ∈ xs := by
  obtain ⟨n, rfl⟩ := Int.eq_ofNat_of_zero_le h0
  rw [rd_nat xs n (by omega)]; exact List.getElem_mem _
theorem rd_byte {xs : List Int} (hx : ∀ x ∈ xs, (Lit.int .u8 x).wf = true) (i : Int) : 0 ≤ rd xs i ∧ rd xs i < 256 := by
  by_cases h : i.toNat < xs.length
  · have : rd xs i = xs[i.toNat] := by simp [rd, List.getD_eq_getElem?_getD, List.getElem?_eq_getElem h]
    have h2 := wf_u8 (hx _ (List.getElem_mem h))
    rw [this]; omega
  · have : rd xs i = 0 := by simp [rd, List.getD_eq_getElem?_getD, List.getElem?_eq_none (Nat.le_of_not_lt h)]
    omega
theorem all_byte {xs : List Int} (hx : ∀ x ∈ xs, (Lit.int .u8 x).wf = true) : ∀ x ∈ xs, 0 ≤ x ∧ x < 256 := fun x h => by
  have := wf_u8 (hx x h); omega

end Go.Proofs.Ytnchbgiojdijbaa.Lib

namespace Go.Proofs.Ytnchbgiojdijbaa.PrintWords
/-- The words' lemma under the name by which a printed row calls it. -/
theorem sized_ints : type_of% (@Go.Proofs.YtnchbgiojdijbaaW.PrintWords.sized_ints) := @Go.Proofs.YtnchbgiojdijbaaW.PrintWords.sized_ints
end Go.Proofs.Ytnchbgiojdijbaa.PrintWords
