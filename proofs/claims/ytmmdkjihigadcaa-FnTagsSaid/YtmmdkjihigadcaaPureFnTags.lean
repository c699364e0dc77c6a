/- FnTags: a tag that may be comes back of its bytes, Skip of a value goes behind it, fixed numbers come back. No condition. -/
import Derived.Test.YtmmdkjihigadcaaPFnTagsx4
import Derived.Test.YtmmdkjihigadcaaLib
set_option linter.unusedSimpArgs false
set_option linter.unusedVariables false
namespace Go.Proofs.Ytmmdkjihigadcaa.Pure
open Go Go.RowKit Go.Proofs.Ytmmdkjihigadcaa.PFnTags Go.Proofs.YtmmdkjihigadcaaW.PrintWords Go.Proofs.YtmmdkjihigadcaaW.PrintLast Go.Proofs.YtmmdkjihigadcaaW.PrintMore Go.Proofs.Ytmmdkjihigadcaa.Lib

/-- A cursor that a draw may have: its bytes, its place from 0 on. -/
theorem new_ends (l : List Int) (hlen : l.length ≤ 140737488355328) : ∀ (d k : Nat) (i h : Int), 0 ≤ i → i ≤ l.length → l.length - i = d → d < k → ∃ h', spec_l1New.l0 k l h i = some (l, 0, h') := by
  intro d
  induction d with
  | zero =>
    intro k i h h0 h1 hd hk
    obtain ⟨k, rfl⟩ : ∃ m, k = m + 1 := ⟨k - 1, by omega⟩
    exact ⟨_, by simp only [spec_l1New.l0]; rw [if_neg (by omega)]⟩
  | succ d ih =>
    intro k i h h0 h1 hd hk
    obtain ⟨k, rfl⟩ : ∃ m, k = m + 1 := ⟨k - 1, by omega⟩
    simp only [spec_l1New.l0]
    rw [if_pos (show i < (l.length : Int) by omega)]
    by_cases h4 : i < 4000
    · simp only [if_pos h4, if_pos h0]
      rw [w64 (n := i + 1) (by omega) (by omega)]
      exact ih k (i + 1) _ (by omega) (by omega) (by omega) (by omega)
    · simp only [if_neg h4]
      exact ⟨_, rfl⟩
theorem new_some (l : List Int) (hlen : l.length ≤ 140737488355328) (k : Nat) (hk : l.length < k) : ∃ h, spec_l1New.f k l = some (l, 0, h) := by
  unfold spec_l1New.f
  exact new_ends l hlen l.length k 0 _ (by omega) (by omega) (by omega) hk
theorem byte_some (l : List Int) (hlen : l.length ≤ 140737488355328) (i h : Int) (hi : 0 ≤ i ∧ i ≤ l.length) : ∃ x i' h', spec_l1Byte.f l i h = some (x, i', h') ∧ 0 ≤ x ∧ x ≤ 255 ∧ (0 ≤ i' ∧ i' ≤ l.length) := by
  unfold spec_l1Byte.f
  have a255 : ∀ x : Int, Go.bits .and .i64 x 255 = x % 256 := fun x => and_i64 8 (by decide) x
  simp only [a255]
  split
  · rw [if_pos hi.1]
    exact ⟨_, _, _, rfl, by omega, by omega, by rw [w64 (by omega) (by omega)]; omega⟩
  · exact ⟨_, _, _, rfl, by omega, by omega, hi⟩
/-- What is drawn below n: 0 to n - 1 (0 where n is not above 0). -/
theorem below_some (l : List Int) (hlen : l.length ≤ 140737488355328) (i h n : Int) (hi : 0 ≤ i ∧ i ≤ l.length) : ∃ x i' h', spec_l1Below.f l i h n = some (x, i', h') ∧ 0 ≤ x ∧ (0 < n → x < n) ∧ (n ≤ 0 → x = 0) ∧ (0 ≤ i' ∧ i' ≤ l.length) := by
  unfold spec_l1Below.f
  by_cases h0 : n ≤ 0
  · rw [if_pos h0]; exact ⟨_, _, _, rfl, by omega, by omega, by omega, hi⟩
  · rw [if_neg h0]
    split
    · obtain ⟨x, i', h', e, x0, x1, hi'⟩ := byte_some l hlen i h hi
      rw [e]
      simp only [Option.bind_some]
      rw [if_neg (by omega), Int.tmod_eq_emod_of_nonneg x0]
      exact ⟨_, _, _, rfl, Int.emod_nonneg _ (by omega), fun _ => Int.emod_lt_of_pos _ (by omega), by omega, hi'⟩
    · obtain ⟨x, i1, h1, e1, x0, x1, hi1⟩ := byte_some l hlen i h hi
      obtain ⟨y, i2, h2, e2, y0, y1, hi2⟩ := byte_some l hlen i1 h1 hi1
      obtain ⟨z, i3, h3, e3, z0, z1, hi3⟩ := byte_some l hlen i2 h2 hi2
      rw [e1]
      simp only [Option.bind_some, e2, e3]
      rw [if_neg (by omega), w64 (n := x * 65536) (by omega) (by omega), w64 (n := y * 256) (by omega) (by omega), w64 (n := x * 65536 + y * 256) (by omega) (by omega), w64 (n := x * 65536 + y * 256 + z) (by omega) (by omega), Int.tmod_eq_emod_of_nonneg (by omega)]
      exact ⟨_, _, _, rfl, Int.emod_nonneg _ (by omega), fun _ => Int.emod_lt_of_pos _ (by omega), by omega, hi3⟩

theorem int_some (l : List Int) (hlen : l.length ≤ 140737488355328) (i h : Int) (xs : List Int) (hx : 0 < xs.length) (hi : 0 ≤ i ∧ i ≤ l.length) : ∃ x i' h', spec_l1Int.f l i h xs = some (x, i', h') ∧ x ∈ xs ∧ (0 ≤ i' ∧ i' ≤ l.length) := by
  obtain ⟨j, i', h', e, j0, j1, _, hi'⟩ := below_some l hlen i h (xs.length : Int) hi
  unfold spec_l1Int.f
  rw [e]
  simp only [Option.bind_some]
  rw [if_pos j0, if_pos (j1 (by omega))]
  exact ⟨_, _, _, rfl, rd_mem j0 (j1 (by omega)), hi'⟩

theorem shr_range (x y : Int) (hx : -9223372036854775808 ≤ x ∧ x ≤ 9223372036854775807) : -9223372036854775808 ≤ shr .i64 x y ∧ shr .i64 x y ≤ 9223372036854775807 := by
  unfold shr
  have hp : (0 : Int) < 2 ^ min y.toNat IntKind.i64.bits := Int.pow_pos (by decide)
  generalize (2 : Int) ^ min y.toNat IntKind.i64.bits = q at hp
  constructor
  · have h1 : q * (-9223372036854775808) ≤ x := by
      have : q * (-9223372036854775808) ≤ 1 * (-9223372036854775808) := Int.mul_le_mul_of_nonpos_right (by omega) (by decide)
      omega
    rw [Int.le_ediv_iff_mul_le hp, Int.mul_comm]; exact h1
  · have h2 : x / q < 9223372036854775808 := by
      rw [Int.ediv_lt_iff_lt_mul hp]
      have : 9223372036854775808 * 1 ≤ 9223372036854775808 * q := Int.mul_le_mul_of_nonneg_left (by omega) (by decide)
      omega
    omega
theorem num_some (l : List Int) (hlen : l.length ≤ 140737488355328) (i h : Int) (hi : 0 ≤ i ∧ i ≤ l.length) : ∃ x i' h', spec_l1DrawNum.f l i h = some (x, i', h') ∧ (-9223372036854775808 ≤ x ∧ x ≤ 9223372036854775807) ∧ (0 ≤ i' ∧ i' ≤ l.length) := by
  unfold spec_l1DrawNum.f spec_l1Once.f spec_l1Odd.f
  obtain ⟨x1, i1, h1, e1, a1, b1, _, hi1⟩ := below_some l hlen i h 4 hi
  rw [e1]
  simp only [Option.bind_some]
  split
  · obtain ⟨x2, i2, h2, e2, a2, hi2⟩ := int_some l hlen i1 h1 [(-1), 0, 1, 2, 255, 256, 65535, 2147483647, 2147483648, 4294967295, 4294967296, (-2147483648), 9223372036854775807, (-9223372036854775808)] (by decide) hi1
    rw [e2]
    refine ⟨_, _, _, rfl, ?_, hi2⟩
    simp only [List.mem_cons, List.not_mem_nil, or_false] at a2
    rcases a2 with rfl | rfl | rfl | rfl | rfl | rfl | rfl | rfl | rfl | rfl | rfl | rfl | rfl | rfl <;> (simp only []; omega)
  · obtain ⟨x2, i2, h2, e2, a2, b2, _, hi2⟩ := below_some l hlen i1 h1 16000000 hi1
    obtain ⟨x3, i3, h3, e3, a3, b3, _, hi3⟩ := below_some l hlen i2 h2 24 hi2
    rw [e2]
    simp only [Option.bind_some, e3]
    rw [if_pos a3]
    have := b2 (by decide)
    exact ⟨_, _, _, rfl, shr_range _ _ (by rw [w64 (by omega) (by omega)]; omega), hi3⟩
theorem drawpv_some (l : List Int) (hlen : l.length ≤ 140737488355328) (k : Nat) (hk : l.length < k) : ∃ x, spec_DrawPutVarint.f k l = some x ∧ (-9223372036854775808 ≤ x ∧ x ≤ 9223372036854775807) := by
  obtain ⟨h, e⟩ := new_some l hlen k hk
  obtain ⟨x, i', h', e2, hx, _⟩ := num_some l hlen 0 h (by omega)
  unfold spec_DrawPutVarint.f
  rw [e]
  simp only [Option.bind_some, e2]
  exact ⟨x, rfl, hx⟩

/-- The bytes of a varint. -/
def vbytes (n : Nat) : List Int := if n < 128 then [(n : Int)] else ((n : Int) % 128 + 128) :: vbytes (n / 128)
termination_by n
decreasing_by omega
theorem vbytes_small {n : Nat} (h : n < 128) : vbytes n = [(n : Int)] := by rw [vbytes, if_pos h]
theorem vbytes_big {n : Nat} (h : ¬ n < 128) : vbytes n = ((n : Int) % 128 + 128) :: vbytes (n / 128) := by rw [vbytes, if_neg h]
theorem impl_pv_from : ∀ (k n : Nat) (o : List Int), n < 128 ^ k → n < 18446744073709551616 → o.length + k < 1000 → impl_PutVarint.l0 (k + 1) o (n : Int) = some (o ++ vbytes n)
  | 0, n, o, h, _, _ => by
    have : n = 0 := by omega
    subst this
    simp only [impl_PutVarint.l0]
    rw [if_neg (by decide), if_pos (by omega), vbytes_small (by decide)]; rfl
  | k + 1, n, o, h, hn, ho => by
    rw [impl_PutVarint.l0]
    by_cases hs : n < 128
    · rw [if_neg (by omega), if_pos (by omega), vbytes_small hs, show (n : Int) % 256 = n by omega]
    · have e1 : (n : Int) / 128 = ((n / 128 : Nat) : Int) := by omega
      have hp : n < 128 ^ k * 128 := by rw [← Nat.pow_succ]; exact h
      rw [if_pos (by omega), if_pos (by omega), or128 _ (by omega) (by omega), e1, impl_pv_from k (n / 128) _ (Nat.div_lt_of_lt_mul (by omega)) (by omega) (by simp; omega), vbytes_big hs, show (n : Int) % 256 % 128 = (n : Int) % 128 by omega]
      simp
theorem vbytes_length : ∀ (k n : Nat), n < 128 ^ (k + 1) → (vbytes n).length ≤ k + 1
  | 0, n, h => by rw [vbytes_small (by omega)]; simp
  | k + 1, n, h => by
    by_cases hs : n < 128
    · rw [vbytes_small hs]; simp
    · have hp : n < 128 ^ (k + 1) * 128 := by rw [← Nat.pow_succ]; exact h
      rw [vbytes_big hs]
      have := vbytes_length k (n / 128) (Nat.div_lt_of_lt_mul (by omega))
      simp; omega
/-- The number as one without a sign. -/
def uns (n : Int) : Nat := (n % 18446744073709551616).toNat
theorem uns_lt (n : Int) : uns n < 18446744073709551616 := by unfold uns; omega
theorem impl_pv (k : Nat) (n : Int) (hk : 11 ≤ k) (hk2 : k < 1000) : impl_PutVarint.f k n = some (vbytes (uns n)) := by
  unfold impl_PutVarint.f
  obtain ⟨m, rfl⟩ : ∃ m, k = m + 1 := ⟨k - 1, by omega⟩
  rw [wu64, show n % 18446744073709551616 = ((uns n : Nat) : Int) by unfold uns; omega]
  have hp : (128 : Nat) ^ 10 ≤ 128 ^ m := Nat.pow_le_pow_right (by decide) (by omega)
  have := uns_lt n
  rw [impl_pv_from m (uns n) [] (by omega) this (by simp; omega)]
  rfl
theorem pv_length (n : Int) : (vbytes (uns n)).length ≤ 10 := by
  have := uns_lt n
  exact vbytes_length 9 (uns n) (by omega)

theorem shl7 (i : Nat) (hi : i ≤ 9) (c : Int) (h0 : 0 ≤ c) (h1 : c < 128) (h9 : i = 9 → c ≤ 1) : shl .u64 (IntKind.u64.wrap c) (wrap64 (7 * (i : Int))) = c * 2 ^ (7 * i) ∧ c * 2 ^ (7 * i) < 18446744073709551616 ∧ (c * 2 ^ (7 * i)) % 2 ^ (7 * i) = 0 := by
  have hlt : c * 2 ^ (7 * i) < 18446744073709551616 := by
    by_cases e : i = 9
    · subst e; have := h9 rfl; omega
    · have h2 : (2 : Int) ^ (7 * i) ≤ 2 ^ 56 := pow2_le (by omega)
      have : c * 2 ^ (7 * i) ≤ 127 * 2 ^ 56 := Int.mul_le_mul (by omega) h2 (by have : (0:Int) < 2 ^ (7 * i) := Int.pow_pos (by decide); omega) (by decide)
      omega
  have hp : (0 : Int) < 2 ^ (7 * i) := Int.pow_pos (by decide)
  have hnn : 0 ≤ c * 2 ^ (7 * i) := Int.mul_nonneg h0 (by omega)
  refine ⟨?_, hlt, Int.mul_emod_left _ _⟩
  unfold shl
  rw [w64 (by omega) (by omega), show min (7 * (i : Int)).toNat IntKind.u64.bits = 7 * i by simp only [IntKind.bits]; omega, wu64_id h0 (by omega), wu64_id hnn hlt]
/-- What a reader's accumulator comes to. -/
theorem gv_acc (i : Nat) (hi : i ≤ 9) (acc c : Int) (h0 : 0 ≤ acc) (h1 : acc < 2 ^ (7 * i)) (hc0 : 0 ≤ c) (hc : c < 256) (h9 : i = 9 → c % 128 ≤ 1) :
    Go.bits .or .u64 acc (shl .u64 (IntKind.u64.wrap (Go.bits .and .u8 c 127)) (wrap64 (7 * (i : Int)))) = acc + (c % 128) * 2 ^ (7 * i)
    ∧ IntKind.u64.wrap (acc + (shl .u64 (IntKind.u64.wrap (Int.tmod c 128)) (IntKind.u64.wrap (wrap64 (7 * (i : Int)))))) = acc + (c % 128) * 2 ^ (7 * i)
    ∧ acc + (c % 128) * 2 ^ (7 * i) < 2 ^ (7 * (i + 1)) ∧ acc + (c % 128) * 2 ^ (7 * i) < 18446744073709551616 := by
  obtain ⟨s1, s2, s3⟩ := shl7 i (by omega) (c % 128) (by omega) (by omega) h9
  have a1 : Go.bits .and .u8 c 127 = c % 128 := and_u8 7 (by decide) c hc0 hc
  have a2 : Int.tmod c 128 = c % 128 := Int.tmod_eq_emod_of_nonneg hc0
  have w0 : wrap64 (7 * (i : Int)) = 7 * (i : Int) := w64 (by omega) (by omega)
  have a3 : IntKind.u64.wrap (wrap64 (7 * (i : Int))) = wrap64 (7 * (i : Int)) := by rw [w0]; exact wu64_id (by omega) (by omega)
  have hp : (0 : Int) < 2 ^ (7 * i) := Int.pow_pos (by decide)
  have hnn : 0 ≤ (c % 128) * 2 ^ (7 * i) := Int.mul_nonneg (by omega) (by omega)
  have e1 : (2 : Int) ^ (7 * (i + 1)) = 128 * 2 ^ (7 * i) := by
    rw [show 7 * (i + 1) = 7 * i + 7 by omega, Int.pow_add]; omega
  have e2 : (c % 128) * 2 ^ (7 * i) ≤ 127 * 2 ^ (7 * i) := Int.mul_le_mul_of_nonneg_right (by omega) (by omega)
  have hsum : acc + (c % 128) * 2 ^ (7 * i) < 18446744073709551616 := by
    by_cases e : i = 9
    · subst e; have := h9 rfl; omega
    · have h2' : (2 : Int) ^ (7 * i) ≤ 2 ^ 56 := pow2_le (by omega)
      omega
  have hacc : acc < 18446744073709551616 := by omega
  refine ⟨?_, ?_, by omega, hsum⟩
  · rw [a1, s1, or_u64 (7 * i) acc _ h0 h1 hnn s2 s3 hacc]
  · rw [a2, a3, s1, wu64_id (n := acc + _) (by omega) hsum]

theorem rd_drop {l : List Int} {p : Nat} {x : Int} {t : List Int} (h : l.drop p = x :: t) : rd l (p : Int) = x ∧ p < l.length ∧ l.drop (p + 1) = t := by
  have hlt : p < l.length := by
    rcases Nat.lt_or_ge p l.length with h1 | h1
    · exact h1
    · rw [List.drop_eq_nil_of_le h1] at h; cases h
  have h2 : l.drop p = l[p] :: l.drop (p + 1) := List.drop_eq_getElem_cons hlt
  rw [h2] at h
  injection h with h3 h4
  exact ⟨by rw [rd_nat l p hlt, h3], hlt, h4⟩
/-- A varint that stands in the bytes is read. -/
theorem gv_read (l : List Int) (a : Nat) (hlen : l.length ≤ 140737488355328) : ∀ (m : Nat) (n i : Nat) (acc : Int) (post : List Int) (k : Nat), n ≤ m → l.drop (a + i) = vbytes n ++ post → 0 ≤ acc → acc < 2 ^ (7 * i) → (n : Int) * 2 ^ (7 * i) + acc < 18446744073709551616 → i ≤ 9 → 2 * (10 - i) + 1 ≤ k →
    impl_GetVarint.l0 k l (a : Int) acc (i : Int) = some (wrap64 (acc + (n : Int) * 2 ^ (7 * i)), (a : Int) + i + ((vbytes n).length : Int), 0) := by
  intro m
  induction m using Nat.strongRecOn with
  | ind m ih =>
    intro n i acc post k hn hd h0 h1 h2 hi hk
    obtain ⟨k, rfl⟩ : ∃ q, k = q + 2 := ⟨k - 2, by omega⟩
    have hp : (0 : Int) < 2 ^ (7 * i) := Int.pow_pos (by decide)
    by_cases hs : n < 128
    · rw [vbytes_small hs] at hd ⊢
      obtain ⟨hr, hlt, _⟩ := rd_drop hd
      have h9 : i = 9 → n ≤ 1 := by
        intro e; subst e; omega
      have e : (a : Int) + (i : Int) = ((a + i : Nat) : Int) := by omega
      obtain ⟨q1, q2, q3, q4⟩ := gv_acc i hi acc (n : Int) h0 h1 (by omega) (by omega) (fun e => by have := h9 e; omega)
      rw [show (n : Int) % 128 = n by omega] at q1
      simp only [impl_GetVarint.l0]
      rw [if_pos (by omega), e, w64 (n := ((a + i : Nat) : Int)) (by omega) (by omega), if_neg (by omega), if_pos (by omega), if_pos (by omega), hr]
      have fin : impl_GetVarint.j1 (k + 1) l (a : Int) acc (i : Int) (n : Int) false = some (wrap64 (acc + (n : Int) * 2 ^ (7 * i)), ((a + i : Nat) : Int) + (([(n : Int)].length : Nat) : Int), 0) := by
        simp only [impl_GetVarint.j1]
        rw [if_neg Bool.false_ne_true, w64 (n := 7 * (i : Int)) (by omega) (by omega), if_pos (by omega), if_pos (by omega), e, w64 (n := ((a + i : Nat) : Int)) (by omega) (by omega), w64 (n := ((a + i : Nat) : Int) + 1) (by omega) (by omega)]
        rw [w64 (n := 7 * (i : Int)) (by omega) (by omega)] at q1
        rw [q1]; rfl
      by_cases e9 : (i : Int) = 9
      · rw [if_pos e9, show decide ((n : Int) > 1) = false from decide_eq_false (by have := h9 (by omega); omega)]; exact fin
      · rw [if_neg e9]; exact fin
    · rw [vbytes_big hs] at hd ⊢
      obtain ⟨hr, hlt, hd2⟩ := rd_drop hd
      have hi8 : i ≤ 8 := by
        rcases Nat.lt_or_ge i 9 with h | h
        · omega
        · have e : i = 9 := by omega
          subst e
          have : (128 : Int) * 2 ^ (7 * 9) ≤ n * 2 ^ (7 * 9) := Int.mul_le_mul_of_nonneg_right (by omega) (by omega)
          omega
      have e : (a : Int) + (i : Int) = ((a + i : Nat) : Int) := by omega
      obtain ⟨q1, q2, q3, q4⟩ := gv_acc i hi acc ((n : Int) % 128 + 128) h0 h1 (by omega) (by omega) (fun e => by omega)
      rw [show ((n : Int) % 128 + 128) % 128 = (n : Int) % 128 by omega] at q1 q3 q4
      have hsplit : acc + (n : Int) % 128 * 2 ^ (7 * i) + ((n / 128 : Nat) : Int) * 2 ^ (7 * (i + 1)) = acc + (n : Int) * 2 ^ (7 * i) := by
        have e1 : (2 : Int) ^ (7 * (i + 1)) = 128 * 2 ^ (7 * i) := by
          rw [show 7 * (i + 1) = 7 * i + 7 by omega, Int.pow_add]; omega
        have e2 : (n : Int) = 128 * ((n / 128 : Nat) : Int) + (n : Int) % 128 := by omega
        rw [e1, ← Int.mul_assoc, Int.mul_comm ((n / 128 : Nat) : Int) 128, Int.add_assoc, ← Int.add_mul]
        rw [show (n : Int) % 128 + 128 * ((n / 128 : Nat) : Int) = n by omega]
      simp only [impl_GetVarint.l0]
      rw [if_pos (by omega), e, w64 (n := ((a + i : Nat) : Int)) (by omega) (by omega), if_neg (by omega), if_pos (by omega), if_pos (by omega), hr, if_neg (by omega)]
      simp only [impl_GetVarint.j1]
      rw [if_neg Bool.false_ne_true, q1, w64 (n := 7 * (i : Int)) (by omega) (by omega), if_pos (by omega), if_neg (by omega), w64 (n := (i : Int) + 1) (by omega) (by omega), show (i : Int) + 1 = ((i + 1 : Nat) : Int) by omega]
      rw [ih (n / 128) (by omega) (n / 128) (i + 1) _ post k (by omega) hd2 (by
        have : 0 ≤ (n : Int) % 128 * 2 ^ (7 * i) := Int.mul_nonneg (by omega) (by omega)
        omega) q3 (by omega) (by omega) (by omega), hsplit]
      refine congrArg some (Prod.ext rfl (Prod.ext ?_ rfl))
      simp; omega
theorem gv_at (l : List Int) (a : Nat) (hlen : l.length ≤ 140737488355328) (v : Int) (hv : -9223372036854775808 ≤ v ∧ v ≤ 9223372036854775807) (post : List Int) (h : l.drop a = vbytes (uns v) ++ post) (k : Nat) (hk : 21 ≤ k) :
    impl_GetVarint.f k l (a : Int) = some (v, (a : Int) + ((vbytes (uns v)).length : Int), 0) := by
  have hal : a ≤ l.length := by
    rcases Nat.lt_or_ge l.length a with h1 | h1
    · rw [List.drop_eq_nil_of_le (by omega)] at h
      have := congrArg List.length h
      by_cases hs : uns v < 128
      · rw [vbytes_small hs] at this; simp at this
      · rw [vbytes_big hs] at this; simp at this
    · exact h1
  unfold impl_GetVarint.f impl_within.f
  rw [if_pos (by omega)]
  have hu : ((uns v : Nat) : Int) = v % 18446744073709551616 := by unfold uns; omega
  have := gv_read l a hlen (uns v) (uns v) 0 0 post k (Nat.le_refl _) (by simpa using h) (by omega) (by decide) (by omega) (by omega) (by omega)
  simp only [Option.bind_some, decide_eq_true (show (a : Int) ≤ (l.length : Int) by omega), if_true]
  rw [show ((0 : Nat) : Int) = 0 by rfl] at this
  rw [this]
  refine congrArg some (Prod.ext ?_ (Prod.ext ?_ rfl))
  · simp only; rw [hu]; unfold wrap64; omega
  · simp only; omega
theorem vbytes_byte (n : Nat) : ∀ x ∈ vbytes n, (Lit.int .u8 x).wf = true := by
  induction n using Nat.strongRecOn with
  | ind n ih =>
    by_cases hs : n < 128
    · rw [vbytes_small hs]
      intro x hx
      simp only [List.mem_cons, List.not_mem_nil, or_false] at hx
      subst hx
      simp [Lit.wf, IntKind.min, IntKind.max, IntKind.signed, IntKind.bits]; omega
    · rw [vbytes_big hs]
      intro x hx
      rcases List.mem_cons.1 hx with rfl | hx
      · simp [Lit.wf, IntKind.min, IntKind.max, IntKind.signed, IntKind.bits]; omega
      · exact ih (n / 128) (by omega) x hx
theorem vbytes_pos (n : Nat) : 0 < (vbytes n).length := by
  by_cases hs : n < 128
  · rw [vbytes_small hs]; simp
  · rw [vbytes_big hs]; simp

/-- The number of the first n bytes from a place on, the lowest first. -/
def fval (l : List Int) (p : Int) : Nat → Int
  | 0 => 0
  | n + 1 => fval l p n + rd l (p + n) * 256 ^ n
theorem fval_range (l : List Int) (p : Int) (hb : ∀ x ∈ l, (Lit.int .u8 x).wf = true) : ∀ n, 0 ≤ fval l p n ∧ fval l p n < 256 ^ n
  | 0 => by simp [fval]
  | n + 1 => by
    have ih := fval_range l p hb n
    have hr := rd_byte hb (p + n)
    have hp : (0 : Int) < 256 ^ n := Int.pow_pos (by decide)
    have h1 : 0 ≤ rd l (p + n) * 256 ^ n := Int.mul_nonneg hr.1 (by omega)
    have h2 : rd l (p + n) * 256 ^ n ≤ 255 * 256 ^ n := Int.mul_le_mul_of_nonneg_right (by omega) (by omega)
    have e : (256 : Int) ^ (n + 1) = 256 * 256 ^ n := by rw [Int.pow_succ]; omega
    simp only [fval]; omega
theorem pow8 (i : Nat) : (256 : Int) ^ i = 2 ^ (8 * i) := by rw [Int.pow_mul]; rfl
theorem impl_gf (l : List Int) (p s : Int) (hb : ∀ x ∈ l, (Lit.int .u8 x).wf = true) (hp : 0 ≤ p) (hs : s = 4 ∨ s = 8) (hl : p + s ≤ l.length) (hlen : l.length ≤ 140737488355328) : ∀ (d k i : Nat), (i : Int) + d = s → d < k →
    impl_GetFixed.l0 k l p s (fval l p i) (i : Int) = some (wrap64 (fval l p s.toNat), wrap64 (p + s), 0) := by
  intro d
  induction d with
  | zero =>
    intro k i h hk
    obtain ⟨k, rfl⟩ : ∃ m, k = m + 1 := ⟨k - 1, by omega⟩
    simp only [impl_GetFixed.l0]
    rw [if_neg (by omega), show s.toNat = i by omega]
  | succ d ih =>
    intro k i h hk
    obtain ⟨k, rfl⟩ : ∃ m, k = m + 1 := ⟨k - 1, by omega⟩
    have hr := rd_byte hb (p + i)
    have hf := fval_range l p hb i
    have hf1 := fval_range l p hb (i + 1)
    have hpow : (256 : Int) ^ (i + 1) ≤ 256 ^ 8 := pow256_le (by omega)
    simp only [fval] at hf1
    have hp0 : (0 : Int) < 256 ^ i := Int.pow_pos (by decide)
    have hnn : 0 ≤ rd l (p + i) * 256 ^ i := Int.mul_nonneg hr.1 (by omega)
    have hsh : shl .u64 (IntKind.u64.wrap (rd l (p + i))) (wrap64 (8 * (i : Int))) = rd l (p + i) * 256 ^ i := by
      unfold shl
      rw [w64 (by omega) (by omega), show min (8 * (i : Int)).toNat IntKind.u64.bits = 8 * i by simp only [IntKind.bits]; omega, wu64_id hr.1 (by omega), ← pow8, wu64_id hnn (by omega)]
    simp only [impl_GetFixed.l0]
    rw [if_pos (by omega), w64 (n := p + (i : Int)) (by omega) (by omega), if_pos (by omega), if_pos (by omega), hsh, w64 (n := 8 * (i : Int)) (by omega) (by omega), if_pos (by omega),
      or_u64 (8 * i) _ _ hf.1 (by rw [← pow8]; exact hf.2) hnn (by omega) (by rw [← pow8]; exact Int.mul_emod_left _ _) (by omega), w64 (n := (i : Int) + 1) (by omega) (by omega), show (i : Int) + 1 = ((i + 1 : Nat) : Int) by omega]
    exact ih k (i + 1) (by omega) (by omega)
/-- Both readers of a fixed number answer the same. -/
def fixedOf (l : List Int) (p s : Int) : Int × Int × Int := if (s = 4 ∨ s = 8) ∧ 0 ≤ p ∧ p + s ≤ l.length then (wrap64 (fval l p s.toNat), wrap64 (p + s), 0) else (0, 0, 1)
theorem gf_impl (l : List Int) (p s : Int) (hb : ∀ x ∈ l, (Lit.int .u8 x).wf = true) (hlen : l.length ≤ 140737488355328) (k : Nat) (hk : 10 ≤ k) : impl_GetFixed.f k l p s = some (fixedOf l p s) := by
  obtain ⟨k, rfl⟩ : ∃ m, k = m + 1 := ⟨k - 1, by omega⟩
  have go : ∀ b : Bool, (s = 4 ∨ s = 8) → 0 ≤ p → p ≤ l.length → b = decide (s > wrap64 ((l.length : Int) - p)) → impl_GetFixed.j0 (k + 1) l p s b = some (fixedOf l p s) := by
    intro b hs h0 hpl hbb
    simp only [impl_GetFixed.j0]
    rw [w64 (by omega) (by omega)] at hbb
    unfold fixedOf
    by_cases h : s > (l.length : Int) - p
    · rw [decide_eq_true h] at hbb
      rw [hbb, if_pos rfl, if_neg (by omega)]
    · rw [decide_eq_false h] at hbb
      rw [hbb, if_neg (by decide), if_pos (by omega)]
      exact impl_gf l p s hb h0 hs (by omega) hlen s.toNat k 0 (by omega) (by omega)
  have bad : ¬ ((s = 4 ∨ s = 8) ∧ 0 ≤ p ∧ p ≤ l.length) → impl_GetFixed.j0 (k + 1) l p s true = some (fixedOf l p s) := by
    intro h
    simp only [impl_GetFixed.j0, if_true]
    unfold fixedOf
    rw [if_neg (by omega)]
  unfold impl_GetFixed.f impl_within.f
  by_cases h0 : p ≥ 0
  · rw [if_pos h0]
    by_cases h1 : p ≤ (l.length : Int)
    · simp only [Option.bind_some, decide_eq_true h1, if_true]
      by_cases h4 : s = 4
      · rw [if_pos h4, go _ (by omega) (by omega) (by omega) rfl]
      · rw [if_neg h4]
        by_cases h8 : s = 8
        · rw [if_pos h8, go _ (by omega) (by omega) (by omega) rfl]
        · rw [if_neg h8, bad (by omega)]
    · simp only [Option.bind_some, decide_eq_false h1, Bool.false_eq_true, if_false]
      exact bad (by omega)
  · rw [if_neg h0]
    simp only [Option.bind_some, Bool.false_eq_true, if_false]
    exact bad (by omega)

/-- The lowest n bytes of a number, from byte i on. -/
def fbytes (x : Int) (i : Nat) : Nat → List Int
  | 0 => []
  | n + 1 => (x / 256 ^ i % 256) :: fbytes x (i + 1) n
theorem fbytes_length (x : Int) : ∀ n i, (fbytes x i n).length = n
  | 0, _ => rfl
  | n + 1, i => by simp [fbytes, fbytes_length x n (i + 1)]
theorem impl_pf (x s : Int) (hs : s = 4 ∨ s = 8) : ∀ (d k i : Nat) (o : List Int), (i : Int) + d = s → d < k → o.length + d < 1000 → impl_PutFixed.l0 k x s o (i : Int) = some (o ++ fbytes x i d) := by
  intro d
  induction d with
  | zero =>
    intro k i o h hk ho
    obtain ⟨k, rfl⟩ : ∃ m, k = m + 1 := ⟨k - 1, by omega⟩
    simp only [impl_PutFixed.l0]
    rw [if_neg (by omega)]; simp [fbytes]
  | succ d ih =>
    intro k i o h hk ho
    obtain ⟨k, rfl⟩ : ∃ m, k = m + 1 := ⟨k - 1, by omega⟩
    have hsh : shr .i64 x (wrap64 (8 * (i : Int))) = x / 256 ^ i := by
      unfold shr
      rw [w64 (by omega) (by omega), show min (8 * (i : Int)).toNat IntKind.i64.bits = 8 * i by simp only [IntKind.bits]; omega, Int.pow_mul]; rfl
    simp only [impl_PutFixed.l0]
    rw [if_pos (by omega), hsh, w64 (n := 8 * (i : Int)) (by omega) (by omega), if_pos (by omega), if_pos (by omega), w64 (n := (i : Int) + 1) (by omega) (by omega), show (i : Int) + 1 = ((i + 1 : Nat) : Int) by omega,
      ih k (i + 1) _ (by omega) (by omega) (by simp; omega)]
    simp [fbytes]
def pfixed (x s : Int) : List Int := if s = 4 ∨ s = 8 then fbytes x 0 s.toNat else []
theorem pf_impl (x s : Int) (k : Nat) (hk : 10 ≤ k) : impl_PutFixed.f k x s = some (pfixed x s) := by
  obtain ⟨k, rfl⟩ : ∃ m, k = m + 1 := ⟨k - 1, by omega⟩
  have go : (s = 4 ∨ s = 8) → impl_PutFixed.j0 (k + 1) x s false = some (pfixed x s) := by
    intro hs
    simp only [impl_PutFixed.j0]
    have := impl_pf x s hs s.toNat k 0 [] (by omega) (by omega) (by simp; omega)
    rw [if_neg Bool.false_ne_true]
    unfold pfixed
    rw [if_pos hs]
    simpa using this
  unfold impl_PutFixed.f
  by_cases h4 : s = 4
  · rw [if_pos h4, go (by omega)]
  · rw [if_neg h4]
    by_cases h8 : s = 8
    · rw [show (s != 8) = false by simp [h8], go (by omega)]
    · rw [show (s != 8) = true by simp [h8]]
      simp only [impl_PutFixed.j0, if_true]
      unfold pfixed
      rw [if_neg (by omega)]

/-- The bytes of a tag. -/
def tbytes (n w : Int) : List Int := if (1 ≤ n ∧ n ≤ 536870911) ∧ (w = 0 ∨ w = 1 ∨ w = 2 ∨ w = 5) then vbytes (uns (8 * n + w)) else []
theorem impl_pt (k : Nat) (n w : Int) (hk : 11 ≤ k) (hk2 : k < 1000) : impl_PutTag.f k n w = some (tbytes n w) := by
  unfold impl_PutTag.f impl_within.f tbytes
  by_cases h1 : 1 ≤ n
  · rw [if_pos h1]
    by_cases h2 : n ≤ 536870911
    · simp only [Option.bind_some, decide_eq_true h2, if_true]
      rw [impl_pv k _ hk hk2]
      by_cases hw : w = 0 ∨ w = 1 ∨ w = 2 ∨ w = 5
      · rw [if_pos (c := _ ∧ _) ⟨⟨h1, h2⟩, hw⟩, show wrap64 (wrap64 (8 * n) + w) = 8 * n + w by unfold wrap64; omega]
        rcases hw with rfl | rfl | rfl | rfl <;> simp
      · rw [if_neg (c := _ ∧ _) (fun h => hw h.2)]
        rw [if_neg (by omega), if_neg (by omega), if_neg (by omega), if_neg (by omega)]
    · rw [if_neg (c := _ ∧ _) (fun h => h2 h.1.2)]; simp [h2]
  · rw [if_neg h1, if_neg (c := _ ∧ _) (fun h => h1 h.1.1)]; simp

theorem fb_byte (x : Int) : ∀ n i, ∀ y ∈ fbytes x i n, (Lit.int .u8 y).wf = true
  | 0, _, y, h => by simp [fbytes] at h
  | n + 1, i, y, h => by
    simp only [fbytes, List.mem_cons] at h
    rcases h with rfl | h
    · simp [Lit.wf, IntKind.min, IntKind.max, IntKind.signed, IntKind.bits]; omega
    · exact fb_byte x n (i + 1) y h
theorem fb_get (x : Int) : ∀ n i j, j < n → (fbytes x i n)[j]? = some (x / 256 ^ (i + j) % 256)
  | 0, _, j, h => by omega
  | n + 1, i, j, h => by
    simp only [fbytes]
    cases j with
    | zero => simp
    | succ j => rw [List.getElem?_cons_succ, fb_get x n (i + 1) j (by omega), show i + 1 + j = i + (j + 1) by omega]
theorem fval_fb (x : Int) (n : Nat) : ∀ m, m ≤ n → fval (fbytes x 0 n) 0 m = x % 256 ^ m
  | 0, _ => by simp [fval]
  | m + 1, h => by
    have hr : rd (fbytes x 0 n) (0 + (m : Int)) = x / 256 ^ m % 256 := by
      have := fb_get x n 0 m (by omega)
      rw [Int.zero_add, rd_nat _ _ (by rw [fbytes_length]; omega)]
      rw [List.getElem?_eq_getElem (by rw [fbytes_length]; omega)] at this
      injection this with this
      rw [this, Nat.zero_add]
    have hp : (0 : Int) < 256 ^ m := Int.pow_pos (by decide)
    simp only [fval]
    rw [fval_fb x n m (by omega), hr, Int.pow_succ]
    generalize (256 : Int) ^ m = p at hp
    have h1 := Int.emod_add_mul_ediv x p
    have h2 := Int.emod_add_mul_ediv (x / p) 256
    have h3 := Int.emod_nonneg x (show p ≠ 0 by omega)
    have h4 := Int.emod_lt_of_pos x hp
    have h5 : p * (x / p) = x / p % 256 * p + p * 256 * (x / p / 256) := by rw [Int.mul_comm _ p, Int.mul_assoc, ← Int.mul_add, h2]
    have h6 : 0 ≤ x / p % 256 * p := Int.mul_nonneg (by omega) (by omega)
    have h7 : x / p % 256 * p ≤ 255 * p := Int.mul_le_mul_of_nonneg_right (by omega) (by omega)
    exact ((Int.ediv_emod_unique (q := x / p / 256) (show 0 < p * 256 by omega)).2 ⟨by omega, by omega, by omega⟩).2.symm
theorem fixed_back (v : Int) (hv : -9223372036854775808 ≤ v ∧ v ≤ 9223372036854775807) (s : Int) (hs : s = 4 ∨ s = 8) (k : Nat) (hk : 10 ≤ k) :
    impl_GetFixed.f k (pfixed v s) 0 s = some (wrap64 (v % 256 ^ s.toNat), s, 0) := by
  have hl : (pfixed v s).length = s.toNat := by unfold pfixed; rw [if_pos hs, fbytes_length]
  have hb : ∀ x ∈ pfixed v s, (Lit.int .u8 x).wf = true := by unfold pfixed; rw [if_pos hs]; exact fb_byte v _ _
  rw [gf_impl _ 0 s hb (by omega) k hk]
  unfold fixedOf
  rw [if_pos ⟨hs, by omega, by omega⟩, w64 (n := 0 + s) (by omega) (by omega), Int.zero_add]
  unfold pfixed
  rw [if_pos hs, fval_fb v s.toNat s.toNat (Nat.le_refl _)]
theorem skip_varint (l : List Int) (k : Nat) : impl_Skip.f k l 0 0 = (impl_GetVarint.f k l 0).bind fun r => some (r.2.1, r.2.2) := by
  unfold impl_Skip.f; rw [if_pos rfl]
theorem impl_pv_any (k : Nat) (n : Int) (hk : 11 ≤ k) : impl_PutVarint.f k n = some (vbytes (uns n)) :=
  at_rounds (fun k => impl_PutVarint.mono n k) hk (impl_pv 11 n (by omega) (by omega))
theorem impl_pt_any (k : Nat) (n w : Int) (hk : 11 ≤ k) : impl_PutTag.f k n w = some (tbytes n w) :=
  at_rounds (fun k => impl_PutTag.mono n w k) hk (impl_pt 11 n w (by omega) (by omega))
theorem gt_back (n w : Int) (h : (1 ≤ n ∧ n ≤ 536870911) ∧ (w = 0 ∨ w = 1 ∨ w = 2 ∨ w = 5)) (k : Nat) (hk : 30 ≤ k) :
    impl_GetTag.f k (vbytes (uns (8 * n + w))) 0 = some (n, w, ((vbytes (uns (8 * n + w))).length : Int), 0) := by
  have hl := pv_length (8 * n + w)
  have hgv := gv_at (vbytes (uns (8 * n + w))) 0 (by omega) (8 * n + w) (by omega) [] (by simp) k (by omega)
  rw [show (((0 : Nat)) : Int) = 0 from rfl] at hgv
  obtain ⟨k, rfl⟩ : ∃ m, k = m + 2 := ⟨k - 2, by omega⟩
  unfold impl_GetTag.f
  rw [hgv]
  have e1 : IntKind.u64.wrap (8 * n + w) / 8 = n := by rw [wu64]; omega
  have e3 : Go.bits .and .i64 (8 * n + w) 7 = w := by
    rw [show Go.bits .and .i64 (8 * n + w) 7 = (8 * n + w) % 8 from and_i64 3 (by decide) _]; omega
  simp only [Option.bind_some, if_true, e1, e3]
  rw [if_neg (by omega), show decide (n > 536870911) = false from decide_eq_false (by omega)]
  simp only [impl_GetTag.j0, Bool.false_eq_true, if_false]
  rw [if_neg (by omega), show (w == 4) = false from beq_eq_false_iff_ne.mpr (by omega)]
  simp only [impl_GetTag.j1, Bool.false_eq_true, if_false]
  rw [if_neg (by omega), w64 (by omega) (by omega)]
  simp
theorem gt_none (k : Nat) (hk : 30 ≤ k) : ∃ r, impl_GetTag.f k [] 0 = some r := by
  obtain ⟨k, rfl⟩ : ∃ m, k = m + 2 := ⟨k - 2, by omega⟩
  refine ⟨(0, 0, 0, 1), ?_⟩
  unfold impl_GetTag.f impl_GetVarint.f impl_within.f
  simp [impl_GetVarint.l0, wrap64]
theorem FnTags : laws_FnTags.Pure := by
  intro l hl hl2 hb
  refine ⟨l.length + 100, ?_⟩
  unfold laws_FnTags.f laws_big.f
  simp only [Option.bind_some]
  by_cases hbig : (l.length : Int) > 1048576
  · rw [if_pos (by simpa using hbig)]
  · rw [if_neg (by simpa using hbig)]
    have hlen : l.length ≤ 140737488355328 := by omega
    obtain ⟨h, e⟩ := new_some l hlen (l.length + 100) (by omega)
    obtain ⟨x1, i1, h1, e1, a1, b1, _, hi1⟩ := below_some l hlen 0 h 5000 (by omega)
    obtain ⟨n, i2, h2, e2, hn, hi2⟩ := int_some l hlen i1 h1 [0, 1, 15, 16, 536870911, 536870912, (-1), x1] (by simp) hi1
    obtain ⟨w, i3, h3, e3, a3, b3, _, hi3⟩ := below_some l hlen i2 h2 8 hi2
    have hd : spec_DrawPutTag.f (l.length + 100) l = some (n, w) := by
      unfold spec_DrawPutTag.f
      rw [e]; simp only [Option.bind_some, e1, e2, e3]
    obtain ⟨v, hv, hvr⟩ := drawpv_some l hlen (l.length + 100) (by omega)
    have hpt : impl_PutTag.f (l.length + 100) n w = some (tbytes n w) := impl_pt_any _ n w (by omega)
    have h4 := fixed_back v hvr 4 (by omega) (l.length + 100) (by omega)
    have h8 := fixed_back v hvr 8 (by omega) (l.length + 100) (by omega)
    have hp4 : impl_PutFixed.f (l.length + 100) v 4 = some (pfixed v 4) := pf_impl v 4 _ (by omega)
    have hp8 : impl_PutFixed.f (l.length + 100) v 8 = some (pfixed v 8) := pf_impl v 8 _ (by omega)
    have hpv : impl_PutVarint.f (l.length + 100) v = some (vbytes (uns v)) := impl_pv_any _ v (by omega)
    have hvl := pv_length v
    have hsk := skip_varint ([] ++ vbytes (uns v) ++ [1]) (l.length + 100)
    have hgv := gv_at ([] ++ vbytes (uns v) ++ [1]) 0 (by simp; omega) v hvr [1] (by simp) (l.length + 100) (by omega)
    rw [show (((0 : Nat)) : Int) = 0 from rfl] at hgv
    rw [hgv] at hsk
    have e4 : wrap64 (v % 256 ^ Int.toNat 4) = Go.bits .and .i64 v 4294967295 := by
      rw [show Go.bits .and .i64 v 4294967295 = v % 4294967296 from and_i64 32 (by decide) v, show (256 : Int) ^ Int.toNat 4 = 4294967296 from rfl, w64 (by omega) (by omega)]
    have e8 : wrap64 (v % 256 ^ Int.toNat 8) = v := by
      rw [show (256 : Int) ^ Int.toNat 8 = 18446744073709551616 from rfl]; unfold wrap64; omega
    rw [e4] at h4
    rw [e8] at h8
    rw [hd]
    simp only [Option.bind_some, hpt]
    by_cases hok : (1 ≤ n ∧ n ≤ 536870911) ∧ (w = 0 ∨ w = 1 ∨ w = 2 ∨ w = 5)
    · have et : tbytes n w = vbytes (uns (8 * n + w)) := by unfold tbytes; rw [if_pos hok]
      have hgt := gt_back n w hok (l.length + 100) (by omega)
      have hpos := vbytes_pos (uns (8 * n + w))
      simp only [et, hgt, Option.bind_some]
      rw [if_neg (by omega)]
      simp only [hv, hp4, h4, hp8, h8, hpv, Option.bind_some]
      rw [if_pos (by simp; omega)]
      try simp only [Option.bind_some]
      rw [if_pos (by simp; omega), hsk]
      simp
    · have et : tbytes n w = [] := by unfold tbytes; rw [if_neg hok]
      obtain ⟨r, hgt⟩ := gt_none (l.length + 100) (by omega)
      simp only [et, hgt, Option.bind_some]
      rw [if_pos (by simp)]
      by_cases h1 : n < 1
      · rw [if_pos h1]
      · rw [if_neg h1]
        by_cases h2 : n > 536870911
        · rw [if_pos h2]
        · rw [if_neg h2, if_neg (fun h => hok ⟨by omega, by omega⟩), if_neg (fun h => hok ⟨by omega, by omega⟩), if_neg (fun h => hok ⟨by omega, by omega⟩)]
          have : ¬ w = 5 := fun h => hok ⟨by omega, by omega⟩
          simp [this]

end Go.Proofs.Ytmmdkjihigadcaa.Pure
