/- FnVarint: drawn numbers come back of their bytes, at their place, of at most ten bytes; with a needless byte they come back, too; cut short they are too short. No condition. -/
import Derived.Test.YtmmdkjihigadcaaPFnVarintx3
import Derived.Test.YtmmdkjihigadcaaLib
set_option linter.unusedSimpArgs false
set_option linter.unusedVariables false
namespace Go.Proofs.Ytmmdkjihigadcaa.Pure
open Go Go.RowKit Go.Proofs.Ytmmdkjihigadcaa.PFnVarint Go.Proofs.YtmmdkjihigadcaaW.PrintWords Go.Proofs.YtmmdkjihigadcaaW.PrintLast Go.Proofs.YtmmdkjihigadcaaW.PrintMore Go.Proofs.Ytmmdkjihigadcaa.Lib

/-- A cursor that a draw may have: its bytes, its place from 0 on. -/
theorem new_ends (l : List Int) (hlen : l.length ≤ 140737488355328) : ∀ (d k : Nat) (i h : Int), 0 ≤ i → i ≤ l.length → l.length - i = d → d < k → ∃ h', spec_l1New.l0 k l h i = some (l, 0, h') := by
  intro d
  induction d with
  | zero =>
    intro k i h h0 h1 hd hk
    obtain ⟨k, rfl⟩ : ∃ m, k = m + 1 := ⟨k - 1, by omega⟩
    exact ⟨_, by simp only [spec_l1New.l0]; rw [if_neg (by omega)]⟩
  | succ d ih =>
    intro k i h h0 h1 hd hk
    obtain ⟨k, rfl⟩ : ∃ m, k = m + 1 := ⟨k - 1, by omega⟩
    simp only [spec_l1New.l0]
    rw [if_pos (show i < (l.length : Int) by omega)]
    by_cases h4 : i < 4000
    · simp only [if_pos h4, if_pos h0]
      rw [w64 (n := i + 1) (by omega) (by omega)]
      exact ih k (i + 1) _ (by omega) (by omega) (by omega) (by omega)
    · simp only [if_neg h4]
      exact ⟨_, rfl⟩
theorem new_some (l : List Int) (hlen : l.length ≤ 140737488355328) (k : Nat) (hk : l.length < k) : ∃ h, spec_l1New.f k l = some (l, 0, h) := by
  unfold spec_l1New.f
  exact new_ends l hlen l.length k 0 _ (by omega) (by omega) (by omega) hk
theorem byte_some (l : List Int) (hlen : l.length ≤ 140737488355328) (i h : Int) (hi : 0 ≤ i ∧ i ≤ l.length) : ∃ x i' h', spec_l1Byte.f l i h = some (x, i', h') ∧ 0 ≤ x ∧ x ≤ 255 ∧ (0 ≤ i' ∧ i' ≤ l.length) := by
  unfold spec_l1Byte.f
  have a255 : ∀ x : Int, Go.bits .and .i64 x 255 = x % 256 := fun x => and_i64 8 (by decide) x
  simp only [a255]
  split
  · rw [if_pos hi.1]
    exact ⟨_, _, _, rfl, by omega, by omega, by rw [w64 (by omega) (by omega)]; omega⟩
  · exact ⟨_, _, _, rfl, by omega, by omega, hi⟩
/-- What is drawn below n: 0 to n - 1 (0 where n is not above 0). -/
theorem below_some (l : List Int) (hlen : l.length ≤ 140737488355328) (i h n : Int) (hi : 0 ≤ i ∧ i ≤ l.length) : ∃ x i' h', spec_l1Below.f l i h n = some (x, i', h') ∧ 0 ≤ x ∧ (0 < n → x < n) ∧ (n ≤ 0 → x = 0) ∧ (0 ≤ i' ∧ i' ≤ l.length) := by
  unfold spec_l1Below.f
  by_cases h0 : n ≤ 0
  · rw [if_pos h0]; exact ⟨_, _, _, rfl, by omega, by omega, by omega, hi⟩
  · rw [if_neg h0]
    split
    · obtain ⟨x, i', h', e, x0, x1, hi'⟩ := byte_some l hlen i h hi
      rw [e]
      simp only [Option.bind_some]
      rw [if_neg (by omega), Int.tmod_eq_emod_of_nonneg x0]
      exact ⟨_, _, _, rfl, Int.emod_nonneg _ (by omega), fun _ => Int.emod_lt_of_pos _ (by omega), by omega, hi'⟩
    · obtain ⟨x, i1, h1, e1, x0, x1, hi1⟩ := byte_some l hlen i h hi
      obtain ⟨y, i2, h2, e2, y0, y1, hi2⟩ := byte_some l hlen i1 h1 hi1
      obtain ⟨z, i3, h3, e3, z0, z1, hi3⟩ := byte_some l hlen i2 h2 hi2
      rw [e1]
      simp only [Option.bind_some, e2, e3]
      rw [if_neg (by omega), w64 (n := x * 65536) (by omega) (by omega), w64 (n := y * 256) (by omega) (by omega), w64 (n := x * 65536 + y * 256) (by omega) (by omega), w64 (n := x * 65536 + y * 256 + z) (by omega) (by omega), Int.tmod_eq_emod_of_nonneg (by omega)]
      exact ⟨_, _, _, rfl, Int.emod_nonneg _ (by omega), fun _ => Int.emod_lt_of_pos _ (by omega), by omega, hi3⟩

theorem int_some (l : List Int) (hlen : l.length ≤ 140737488355328) (i h : Int) (xs : List Int) (hx : 0 < xs.length) (hi : 0 ≤ i ∧ i ≤ l.length) : ∃ x i' h', spec_l1Int.f l i h xs = some (x, i', h') ∧ x ∈ xs ∧ (0 ≤ i' ∧ i' ≤ l.length) := by
  obtain ⟨j, i', h', e, j0, j1, _, hi'⟩ := below_some l hlen i h (xs.length : Int) hi
  unfold spec_l1Int.f
  rw [e]
  simp only [Option.bind_some]
  rw [if_pos j0, if_pos (j1 (by omega))]
  exact ⟨_, _, _, rfl, rd_mem j0 (j1 (by omega)), hi'⟩

theorem shr_range (x y : Int) (hx : -9223372036854775808 ≤ x ∧ x ≤ 9223372036854775807) : -9223372036854775808 ≤ shr .i64 x y ∧ shr .i64 x y ≤ 9223372036854775807 := by
  unfold shr
  have hp : (0 : Int) < 2 ^ min y.toNat IntKind.i64.bits := Int.pow_pos (by decide)
  generalize (2 : Int) ^ min y.toNat IntKind.i64.bits = q at hp
  constructor
  · have h1 : q * (-9223372036854775808) ≤ x := by
      have : q * (-9223372036854775808) ≤ 1 * (-9223372036854775808) := Int.mul_le_mul_of_nonpos_right (by omega) (by decide)
      omega
    rw [Int.le_ediv_iff_mul_le hp, Int.mul_comm]; exact h1
  · have h2 : x / q < 9223372036854775808 := by
      rw [Int.ediv_lt_iff_lt_mul hp]
      have : 9223372036854775808 * 1 ≤ 9223372036854775808 * q := Int.mul_le_mul_of_nonneg_left (by omega) (by decide)
      omega
    omega
theorem num_some (l : List Int) (hlen : l.length ≤ 140737488355328) (i h : Int) (hi : 0 ≤ i ∧ i ≤ l.length) : ∃ x i' h', spec_l1DrawNum.f l i h = some (x, i', h') ∧ (-9223372036854775808 ≤ x ∧ x ≤ 9223372036854775807) ∧ (0 ≤ i' ∧ i' ≤ l.length) := by
  unfold spec_l1DrawNum.f spec_l1Once.f spec_l1Odd.f
  obtain ⟨x1, i1, h1, e1, a1, b1, _, hi1⟩ := below_some l hlen i h 4 hi
  rw [e1]
  simp only [Option.bind_some]
  split
  · obtain ⟨x2, i2, h2, e2, a2, hi2⟩ := int_some l hlen i1 h1 [(-1), 0, 1, 2, 255, 256, 65535, 2147483647, 2147483648, 4294967295, 4294967296, (-2147483648), 9223372036854775807, (-9223372036854775808)] (by decide) hi1
    rw [e2]
    refine ⟨_, _, _, rfl, ?_, hi2⟩
    simp only [List.mem_cons, List.not_mem_nil, or_false] at a2
    rcases a2 with rfl | rfl | rfl | rfl | rfl | rfl | rfl | rfl | rfl | rfl | rfl | rfl | rfl | rfl <;> (simp only []; omega)
  · obtain ⟨x2, i2, h2, e2, a2, b2, _, hi2⟩ := below_some l hlen i1 h1 16000000 hi1
    obtain ⟨x3, i3, h3, e3, a3, b3, _, hi3⟩ := below_some l hlen i2 h2 24 hi2
    rw [e2]
    simp only [Option.bind_some, e3]
    rw [if_pos a3]
    have := b2 (by decide)
    exact ⟨_, _, _, rfl, shr_range _ _ (by rw [w64 (by omega) (by omega)]; omega), hi3⟩
theorem drawpv_some (l : List Int) (hlen : l.length ≤ 140737488355328) (k : Nat) (hk : l.length < k) : ∃ x, spec_DrawPutVarint.f k l = some x ∧ (-9223372036854775808 ≤ x ∧ x ≤ 9223372036854775807) := by
  obtain ⟨h, e⟩ := new_some l hlen k hk
  obtain ⟨x, i', h', e2, hx, _⟩ := num_some l hlen 0 h (by omega)
  unfold spec_DrawPutVarint.f
  rw [e]
  simp only [Option.bind_some, e2]
  exact ⟨x, rfl, hx⟩

/-- The bytes of a varint. -/
def vbytes (n : Nat) : List Int := if n < 128 then [(n : Int)] else ((n : Int) % 128 + 128) :: vbytes (n / 128)
termination_by n
decreasing_by omega
theorem vbytes_small {n : Nat} (h : n < 128) : vbytes n = [(n : Int)] := by rw [vbytes, if_pos h]
theorem vbytes_big {n : Nat} (h : ¬ n < 128) : vbytes n = ((n : Int) % 128 + 128) :: vbytes (n / 128) := by rw [vbytes, if_neg h]
theorem impl_pv_from : ∀ (k n : Nat) (o : List Int), n < 128 ^ k → n < 18446744073709551616 → o.length + k < 1000 → impl_PutVarint.l0 (k + 1) o (n : Int) = some (o ++ vbytes n)
  | 0, n, o, h, _, _ => by
    have : n = 0 := by omega
    subst this
    simp only [impl_PutVarint.l0]
    rw [if_neg (by decide), if_pos (by omega), vbytes_small (by decide)]; rfl
  | k + 1, n, o, h, hn, ho => by
    rw [impl_PutVarint.l0]
    by_cases hs : n < 128
    · rw [if_neg (by omega), if_pos (by omega), vbytes_small hs, show (n : Int) % 256 = n by omega]
    · have e1 : (n : Int) / 128 = ((n / 128 : Nat) : Int) := by omega
      have hp : n < 128 ^ k * 128 := by rw [← Nat.pow_succ]; exact h
      rw [if_pos (by omega), if_pos (by omega), or128 _ (by omega) (by omega), e1, impl_pv_from k (n / 128) _ (Nat.div_lt_of_lt_mul (by omega)) (by omega) (by simp; omega), vbytes_big hs, show (n : Int) % 256 % 128 = (n : Int) % 128 by omega]
      simp
theorem vbytes_length : ∀ (k n : Nat), n < 128 ^ (k + 1) → (vbytes n).length ≤ k + 1
  | 0, n, h => by rw [vbytes_small (by omega)]; simp
  | k + 1, n, h => by
    by_cases hs : n < 128
    · rw [vbytes_small hs]; simp
    · have hp : n < 128 ^ (k + 1) * 128 := by rw [← Nat.pow_succ]; exact h
      rw [vbytes_big hs]
      have := vbytes_length k (n / 128) (Nat.div_lt_of_lt_mul (by omega))
      simp; omega
/-- The number as one without a sign. -/
def uns (n : Int) : Nat := (n % 18446744073709551616).toNat
theorem uns_lt (n : Int) : uns n < 18446744073709551616 := by unfold uns; omega
theorem impl_pv (k : Nat) (n : Int) (hk : 11 ≤ k) (hk2 : k < 1000) : impl_PutVarint.f k n = some (vbytes (uns n)) := by
  unfold impl_PutVarint.f
  obtain ⟨m, rfl⟩ : ∃ m, k = m + 1 := ⟨k - 1, by omega⟩
  rw [wu64, show n % 18446744073709551616 = ((uns n : Nat) : Int) by unfold uns; omega]
  have hp : (128 : Nat) ^ 10 ≤ 128 ^ m := Nat.pow_le_pow_right (by decide) (by omega)
  have := uns_lt n
  rw [impl_pv_from m (uns n) [] (by omega) this (by simp; omega)]
  rfl
theorem pv_length (n : Int) : (vbytes (uns n)).length ≤ 10 := by
  have := uns_lt n
  exact vbytes_length 9 (uns n) (by omega)

theorem shl7 (i : Nat) (hi : i ≤ 9) (c : Int) (h0 : 0 ≤ c) (h1 : c < 128) (h9 : i = 9 → c ≤ 1) : shl .u64 (IntKind.u64.wrap c) (wrap64 (7 * (i : Int))) = c * 2 ^ (7 * i) ∧ c * 2 ^ (7 * i) < 18446744073709551616 ∧ (c * 2 ^ (7 * i)) % 2 ^ (7 * i) = 0 := by
  have hlt : c * 2 ^ (7 * i) < 18446744073709551616 := by
    by_cases e : i = 9
    · subst e; have := h9 rfl; omega
    · have h2 : (2 : Int) ^ (7 * i) ≤ 2 ^ 56 := pow2_le (by omega)
      have : c * 2 ^ (7 * i) ≤ 127 * 2 ^ 56 := Int.mul_le_mul (by omega) h2 (by have : (0:Int) < 2 ^ (7 * i) := Int.pow_pos (by decide); omega) (by decide)
      omega
  have hp : (0 : Int) < 2 ^ (7 * i) := Int.pow_pos (by decide)
  have hnn : 0 ≤ c * 2 ^ (7 * i) := Int.mul_nonneg h0 (by omega)
  refine ⟨?_, hlt, Int.mul_emod_left _ _⟩
  unfold shl
  rw [w64 (by omega) (by omega), show min (7 * (i : Int)).toNat IntKind.u64.bits = 7 * i by simp only [IntKind.bits]; omega, wu64_id h0 (by omega), wu64_id hnn hlt]
/-- What a reader's accumulator comes to. -/
theorem gv_acc (i : Nat) (hi : i ≤ 9) (acc c : Int) (h0 : 0 ≤ acc) (h1 : acc < 2 ^ (7 * i)) (hc0 : 0 ≤ c) (hc : c < 256) (h9 : i = 9 → c % 128 ≤ 1) :
    Go.bits .or .u64 acc (shl .u64 (IntKind.u64.wrap (Go.bits .and .u8 c 127)) (wrap64 (7 * (i : Int)))) = acc + (c % 128) * 2 ^ (7 * i)
    ∧ IntKind.u64.wrap (acc + (shl .u64 (IntKind.u64.wrap (Int.tmod c 128)) (IntKind.u64.wrap (wrap64 (7 * (i : Int)))))) = acc + (c % 128) * 2 ^ (7 * i)
    ∧ acc + (c % 128) * 2 ^ (7 * i) < 2 ^ (7 * (i + 1)) ∧ acc + (c % 128) * 2 ^ (7 * i) < 18446744073709551616 := by
  obtain ⟨s1, s2, s3⟩ := shl7 i (by omega) (c % 128) (by omega) (by omega) h9
  have a1 : Go.bits .and .u8 c 127 = c % 128 := and_u8 7 (by decide) c hc0 hc
  have a2 : Int.tmod c 128 = c % 128 := Int.tmod_eq_emod_of_nonneg hc0
  have w0 : wrap64 (7 * (i : Int)) = 7 * (i : Int) := w64 (by omega) (by omega)
  have a3 : IntKind.u64.wrap (wrap64 (7 * (i : Int))) = wrap64 (7 * (i : Int)) := by rw [w0]; exact wu64_id (by omega) (by omega)
  have hp : (0 : Int) < 2 ^ (7 * i) := Int.pow_pos (by decide)
  have hnn : 0 ≤ (c % 128) * 2 ^ (7 * i) := Int.mul_nonneg (by omega) (by omega)
  have e1 : (2 : Int) ^ (7 * (i + 1)) = 128 * 2 ^ (7 * i) := by
    rw [show 7 * (i + 1) = 7 * i + 7 by omega, Int.pow_add]; omega
  have e2 : (c % 128) * 2 ^ (7 * i) ≤ 127 * 2 ^ (7 * i) := Int.mul_le_mul_of_nonneg_right (by omega) (by omega)
  have hsum : acc + (c % 128) * 2 ^ (7 * i) < 18446744073709551616 := by
    by_cases e : i = 9
    · subst e; have := h9 rfl; omega
    · have h2' : (2 : Int) ^ (7 * i) ≤ 2 ^ 56 := pow2_le (by omega)
      omega
  have hacc : acc < 18446744073709551616 := by omega
  refine ⟨?_, ?_, by omega, hsum⟩
  · rw [a1, s1, or_u64 (7 * i) acc _ h0 h1 hnn s2 s3 hacc]
  · rw [a2, a3, s1, wu64_id (n := acc + _) (by omega) hsum]

theorem rd_drop {l : List Int} {p : Nat} {x : Int} {t : List Int} (h : l.drop p = x :: t) : rd l (p : Int) = x ∧ p < l.length ∧ l.drop (p + 1) = t := by
  have hlt : p < l.length := by
    rcases Nat.lt_or_ge p l.length with h1 | h1
    · exact h1
    · rw [List.drop_eq_nil_of_le h1] at h; cases h
  have h2 : l.drop p = l[p] :: l.drop (p + 1) := List.drop_eq_getElem_cons hlt
  rw [h2] at h
  injection h with h3 h4
  exact ⟨by rw [rd_nat l p hlt, h3], hlt, h4⟩
/-- A varint that stands in the bytes is read. -/
theorem gv_read (l : List Int) (a : Nat) (hlen : l.length ≤ 140737488355328) : ∀ (m : Nat) (n i : Nat) (acc : Int) (post : List Int) (k : Nat), n ≤ m → l.drop (a + i) = vbytes n ++ post → 0 ≤ acc → acc < 2 ^ (7 * i) → (n : Int) * 2 ^ (7 * i) + acc < 18446744073709551616 → i ≤ 9 → 2 * (10 - i) + 1 ≤ k →
    impl_GetVarint.l0 k l (a : Int) acc (i : Int) = some (wrap64 (acc + (n : Int) * 2 ^ (7 * i)), (a : Int) + i + ((vbytes n).length : Int), 0) := by
  intro m
  induction m using Nat.strongRecOn with
  | ind m ih =>
    intro n i acc post k hn hd h0 h1 h2 hi hk
    obtain ⟨k, rfl⟩ : ∃ q, k = q + 2 := ⟨k - 2, by omega⟩
    have hp : (0 : Int) < 2 ^ (7 * i) := Int.pow_pos (by decide)
    by_cases hs : n < 128
    · rw [vbytes_small hs] at hd ⊢
      obtain ⟨hr, hlt, _⟩ := rd_drop hd
      have h9 : i = 9 → n ≤ 1 := by
        intro e; subst e; omega
      have e : (a : Int) + (i : Int) = ((a + i : Nat) : Int) := by omega
      obtain ⟨q1, q2, q3, q4⟩ := gv_acc i hi acc (n : Int) h0 h1 (by omega) (by omega) (fun e => by have := h9 e; omega)
      rw [show (n : Int) % 128 = n by omega] at q1
      simp only [impl_GetVarint.l0]
      rw [if_pos (by omega), e, w64 (n := ((a + i : Nat) : Int)) (by omega) (by omega), if_neg (by omega), if_pos (by omega), if_pos (by omega), hr]
      have fin : impl_GetVarint.j1 (k + 1) l (a : Int) acc (i : Int) (n : Int) false = some (wrap64 (acc + (n : Int) * 2 ^ (7 * i)), ((a + i : Nat) : Int) + (([(n : Int)].length : Nat) : Int), 0) := by
        simp only [impl_GetVarint.j1]
        rw [if_neg Bool.false_ne_true, w64 (n := 7 * (i : Int)) (by omega) (by omega), if_pos (by omega), if_pos (by omega), e, w64 (n := ((a + i : Nat) : Int)) (by omega) (by omega), w64 (n := ((a + i : Nat) : Int) + 1) (by omega) (by omega)]
        rw [w64 (n := 7 * (i : Int)) (by omega) (by omega)] at q1
        rw [q1]; rfl
      by_cases e9 : (i : Int) = 9
      · rw [if_pos e9, show decide ((n : Int) > 1) = false from decide_eq_false (by have := h9 (by omega); omega)]; exact fin
      · rw [if_neg e9]; exact fin
    · rw [vbytes_big hs] at hd ⊢
      obtain ⟨hr, hlt, hd2⟩ := rd_drop hd
      have hi8 : i ≤ 8 := by
        rcases Nat.lt_or_ge i 9 with h | h
        · omega
        · have e : i = 9 := by omega
          subst e
          have : (128 : Int) * 2 ^ (7 * 9) ≤ n * 2 ^ (7 * 9) := Int.mul_le_mul_of_nonneg_right (by omega) (by omega)
          omega
      have e : (a : Int) + (i : Int) = ((a + i : Nat) : Int) := by omega
      obtain ⟨q1, q2, q3, q4⟩ := gv_acc i hi acc ((n : Int) % 128 + 128) h0 h1 (by omega) (by omega) (fun e => by omega)
      rw [show ((n : Int) % 128 + 128) % 128 = (n : Int) % 128 by omega] at q1 q3 q4
      have hsplit : acc + (n : Int) % 128 * 2 ^ (7 * i) + ((n / 128 : Nat) : Int) * 2 ^ (7 * (i + 1)) = acc + (n : Int) * 2 ^ (7 * i) := by
        have e1 : (2 : Int) ^ (7 * (i + 1)) = 128 * 2 ^ (7 * i) := by
          rw [show 7 * (i + 1) = 7 * i + 7 by omega, Int.pow_add]; omega
        have e2 : (n : Int) = 128 * ((n / 128 : Nat) : Int) + (n : Int) % 128 := by omega
        rw [e1, ← Int.mul_assoc, Int.mul_comm ((n / 128 : Nat) : Int) 128, Int.add_assoc, ← Int.add_mul]
        rw [show (n : Int) % 128 + 128 * ((n / 128 : Nat) : Int) = n by omega]
      simp only [impl_GetVarint.l0]
      rw [if_pos (by omega), e, w64 (n := ((a + i : Nat) : Int)) (by omega) (by omega), if_neg (by omega), if_pos (by omega), if_pos (by omega), hr, if_neg (by omega)]
      simp only [impl_GetVarint.j1]
      rw [if_neg Bool.false_ne_true, q1, w64 (n := 7 * (i : Int)) (by omega) (by omega), if_pos (by omega), if_neg (by omega), w64 (n := (i : Int) + 1) (by omega) (by omega), show (i : Int) + 1 = ((i + 1 : Nat) : Int) by omega]
      rw [ih (n / 128) (by omega) (n / 128) (i + 1) _ post k (by omega) hd2 (by
        have : 0 ≤ (n : Int) % 128 * 2 ^ (7 * i) := Int.mul_nonneg (by omega) (by omega)
        omega) q3 (by omega) (by omega) (by omega), hsplit]
      refine congrArg some (Prod.ext rfl (Prod.ext ?_ rfl))
      simp; omega
theorem gv_at (l : List Int) (a : Nat) (hlen : l.length ≤ 140737488355328) (v : Int) (hv : -9223372036854775808 ≤ v ∧ v ≤ 9223372036854775807) (post : List Int) (h : l.drop a = vbytes (uns v) ++ post) (k : Nat) (hk : 21 ≤ k) :
    impl_GetVarint.f k l (a : Int) = some (v, (a : Int) + ((vbytes (uns v)).length : Int), 0) := by
  have hal : a ≤ l.length := by
    rcases Nat.lt_or_ge l.length a with h1 | h1
    · rw [List.drop_eq_nil_of_le (by omega)] at h
      have := congrArg List.length h
      by_cases hs : uns v < 128
      · rw [vbytes_small hs] at this; simp at this
      · rw [vbytes_big hs] at this; simp at this
    · exact h1
  unfold impl_GetVarint.f impl_within.f
  rw [if_pos (by omega)]
  have hu : ((uns v : Nat) : Int) = v % 18446744073709551616 := by unfold uns; omega
  have := gv_read l a hlen (uns v) (uns v) 0 0 post k (Nat.le_refl _) (by simpa using h) (by omega) (by decide) (by omega) (by omega) (by omega)
  simp only [Option.bind_some, decide_eq_true (show (a : Int) ≤ (l.length : Int) by omega), if_true]
  rw [show ((0 : Nat) : Int) = 0 by rfl] at this
  rw [this]
  refine congrArg some (Prod.ext ?_ (Prod.ext ?_ rfl))
  · simp only; rw [hu]; unfold wrap64; omega
  · simp only; omega
theorem vbytes_byte (n : Nat) : ∀ x ∈ vbytes n, (Lit.int .u8 x).wf = true := by
  induction n using Nat.strongRecOn with
  | ind n ih =>
    by_cases hs : n < 128
    · rw [vbytes_small hs]
      intro x hx
      simp only [List.mem_cons, List.not_mem_nil, or_false] at hx
      subst hx
      simp [Lit.wf, IntKind.min, IntKind.max, IntKind.signed, IntKind.bits]; omega
    · rw [vbytes_big hs]
      intro x hx
      rcases List.mem_cons.1 hx with rfl | hx
      · simp [Lit.wf, IntKind.min, IntKind.max, IntKind.signed, IntKind.bits]; omega
      · exact ih (n / 128) (by omega) x hx
theorem vbytes_pos (n : Nat) : 0 < (vbytes n).length := by
  by_cases hs : n < 128
  · rw [vbytes_small hs]; simp
  · rw [vbytes_big hs]; simp

/-- The bytes of a varint with a needless one. -/
def vlong (n : Nat) : List Int := if n < 128 then [(n : Int) + 128, 0] else ((n : Int) % 128 + 128) :: vlong (n / 128)
termination_by n
decreasing_by omega
theorem vlong_small {n : Nat} (h : n < 128) : vlong n = [(n : Int) + 128, 0] := by rw [vlong, if_pos h]
theorem vlong_big {n : Nat} (h : ¬ n < 128) : vlong n = ((n : Int) % 128 + 128) :: vlong (n / 128) := by rw [vlong, if_neg h]
theorem vlong_length (n : Nat) : (vlong n).length = (vbytes n).length + 1 := by
  induction n using Nat.strongRecOn with
  | ind n ih =>
    by_cases hs : n < 128
    · rw [vlong_small hs, vbytes_small hs]; rfl
    · rw [vlong_big hs, vbytes_big hs, List.length_cons, List.length_cons, ih (n / 128) (by omega)]
/-- A varint is its first bytes, each with 128 added, and a last one below 128. -/
theorem vbytes_cut (n : Nat) : ∃ (init : List Int) (last : Int), vbytes n = init ++ [last] ∧ vlong n = init ++ [last + 128, 0] ∧ (0 ≤ last ∧ last < 128) ∧ (∀ x ∈ init, 128 ≤ x ∧ x < 256) := by
  induction n using Nat.strongRecOn with
  | ind n ih =>
    by_cases hs : n < 128
    · exact ⟨[], n, by rw [vbytes_small hs]; rfl, by rw [vlong_small hs]; rfl, by omega, by simp⟩
    · obtain ⟨init, last, h1, h2, h3, h4⟩ := ih (n / 128) (by omega)
      refine ⟨((n : Int) % 128 + 128) :: init, last, by rw [vbytes_big hs, h1]; rfl, by rw [vlong_big hs, h2]; rfl, h3, ?_⟩
      intro x hx
      rcases List.mem_cons.1 hx with rfl | hx
      · omega
      · exact h4 x hx
/-- One round of the reader, at a byte with 128 added. -/
theorem gv_round (l : List Int) (a i : Nat) (acc c : Int) (t : List Int) (k : Nat) (hlen : l.length ≤ 140737488355328) (hi : i ≤ 8) (h0 : 0 ≤ acc) (h1 : acc < 2 ^ (7 * i)) (hc0 : 128 ≤ c) (hc : c < 256) (hd : l.drop (a + i) = c :: t) :
    impl_GetVarint.l0 (k + 2) l (a : Int) acc (i : Int) = impl_GetVarint.l0 k l (a : Int) (acc + c % 128 * 2 ^ (7 * i)) ((i + 1 : Nat) : Int) := by
  obtain ⟨hr, hlt, _⟩ := rd_drop hd
  have e : (a : Int) + (i : Int) = ((a + i : Nat) : Int) := by omega
  obtain ⟨q1, q2, q3, q4⟩ := gv_acc i (by omega) acc c h0 h1 (by omega) hc (fun e => by omega)
  have hp : (0 : Int) < 2 ^ (7 * i) := Int.pow_pos (by decide)
  simp only [impl_GetVarint.l0]
  rw [if_pos (by omega), e, w64 (n := ((a + i : Nat) : Int)) (by omega) (by omega), if_neg (by omega), if_pos (by omega), if_pos (by omega), hr, if_neg (by omega)]
  simp only [impl_GetVarint.j1]
  rw [if_neg Bool.false_ne_true, q1, w64 (n := 7 * (i : Int)) (by omega) (by omega), if_pos (by omega), if_neg (by omega), w64 (n := (i : Int) + 1) (by omega) (by omega), show (i : Int) + 1 = ((i + 1 : Nat) : Int) by omega]
theorem gv_long (l : List Int) (a : Nat) (hlen : l.length ≤ 140737488355328) : ∀ (m : Nat) (n i : Nat) (acc : Int) (post : List Int) (k : Nat), n ≤ m → l.drop (a + i) = vlong n ++ post → 0 ≤ acc → acc < 2 ^ (7 * i) → (n : Int) * 2 ^ (7 * i) + acc < 18446744073709551616 → i + (vbytes n).length ≤ 9 → 2 * (10 - i) + 1 ≤ k →
    impl_GetVarint.l0 k l (a : Int) acc (i : Int) = some (wrap64 (acc + (n : Int) * 2 ^ (7 * i)), (a : Int) + i + ((vlong n).length : Int), 0) := by
  intro m
  induction m using Nat.strongRecOn with
  | ind m ih =>
    intro n i acc post k hn hd h0 h1 h2 hi hk
    obtain ⟨k, rfl⟩ : ∃ q, k = q + 2 := ⟨k - 2, by omega⟩
    have hp : (0 : Int) < 2 ^ (7 * i) := Int.pow_pos (by decide)
    have hpos := vbytes_pos n
    by_cases hs : n < 128
    · rw [vlong_small hs] at hd ⊢
      rw [gv_round l a i acc ((n : Int) + 128) _ k hlen (by omega) h0 h1 (by omega) (by omega) hd, show ((n : Int) + 128) % 128 = n by omega]
      obtain ⟨_, _, hd2⟩ := rd_drop hd
      have hz : l.drop (a + (i + 1)) = vbytes 0 ++ post := by rw [vbytes_small (by decide)]; exact hd2
      obtain ⟨_, _, q3, _⟩ := gv_acc i (by omega) acc (n : Int) h0 h1 (by omega) (by omega) (fun e => by omega)
      rw [show (n : Int) % 128 = n by omega] at q3
      have hnn : 0 ≤ (n : Int) * 2 ^ (7 * i) := Int.mul_nonneg (by omega) (by omega)
      rw [gv_read l a hlen 0 0 (i + 1) (acc + (n : Int) * 2 ^ (7 * i)) post k (Nat.le_refl _) hz (by omega) q3 (by omega) (by omega) (by omega), vbytes_small (by decide)]
      refine congrArg some (Prod.ext ?_ (Prod.ext ?_ rfl))
      · simp
      · simp; omega
    · rw [vlong_big hs] at hd ⊢
      rw [vbytes_big hs] at hi
      simp only [List.length_cons] at hi
      have hp2 := vbytes_pos (n / 128)
      rw [gv_round l a i acc ((n : Int) % 128 + 128) _ k hlen (by omega) h0 h1 (by omega) (by omega) hd, show ((n : Int) % 128 + 128) % 128 = (n : Int) % 128 by omega]
      obtain ⟨_, _, hd2⟩ := rd_drop hd
      obtain ⟨_, _, q3, q4⟩ := gv_acc i (by omega) acc ((n : Int) % 128) h0 h1 (by omega) (by omega) (fun e => by omega)
      rw [show (n : Int) % 128 % 128 = (n : Int) % 128 by omega] at q3 q4
      have hsplit : acc + (n : Int) % 128 * 2 ^ (7 * i) + ((n / 128 : Nat) : Int) * 2 ^ (7 * (i + 1)) = acc + (n : Int) * 2 ^ (7 * i) := by
        have e1 : (2 : Int) ^ (7 * (i + 1)) = 128 * 2 ^ (7 * i) := by
          rw [show 7 * (i + 1) = 7 * i + 7 by omega, Int.pow_add]; omega
        rw [e1, ← Int.mul_assoc, Int.mul_comm ((n / 128 : Nat) : Int) 128, Int.add_assoc, ← Int.add_mul]
        rw [show (n : Int) % 128 + 128 * ((n / 128 : Nat) : Int) = n by omega]
      have hnn : 0 ≤ (n : Int) % 128 * 2 ^ (7 * i) := Int.mul_nonneg (by omega) (by omega)
      rw [ih (n / 128) (by omega) (n / 128) (i + 1) _ post k (by omega) hd2 (by omega) q3 (by omega) (by omega) (by omega), hsplit]
      refine congrArg some (Prod.ext rfl (Prod.ext ?_ rfl))
      simp; omega
/-- Bytes that all have 128 added and end: too short. -/
theorem gv_short (l : List Int) (hl : ∀ x ∈ l, 128 ≤ x ∧ x < 256) (hlen : l.length ≤ 9) : ∀ (d i : Nat) (acc : Int) (k : Nat), i + d = l.length → 0 ≤ acc → acc < 2 ^ (7 * i) → 2 * d + 1 ≤ k →
    impl_GetVarint.l0 k l 0 acc (i : Int) = some (0, 0, 1) := by
  intro d
  induction d with
  | zero =>
    intro i acc k h h0 h1 hk
    obtain ⟨k, rfl⟩ : ∃ q, k = q + 1 := ⟨k - 1, by omega⟩
    simp only [impl_GetVarint.l0]
    rw [if_pos (by omega), w64 (n := 0 + (i : Int)) (by omega) (by omega), if_pos (by omega)]
  | succ d ih =>
    intro i acc k h h0 h1 hk
    obtain ⟨k, rfl⟩ : ∃ q, k = q + 2 := ⟨k - 2, by omega⟩
    have hd : l.drop (0 + i) = l[i] :: l.drop (i + 1) := by rw [Nat.zero_add]; exact List.drop_eq_getElem_cons (by omega)
    have hx := hl l[i] (List.getElem_mem _)
    have := gv_round l 0 i acc l[i] (l.drop (i + 1)) k (by omega) (by omega) h0 h1 hx.1 hx.2 hd
    rw [show ((0 : Nat) : Int) = 0 from rfl] at this
    rw [this]
    obtain ⟨_, _, q3, q4⟩ := gv_acc i (by omega) acc l[i] h0 h1 (by omega) hx.2 (fun e => by omega)
    have hp : (0 : Int) < 2 ^ (7 * i) := Int.pow_pos (by decide)
    have hnn : 0 ≤ l[i] % 128 * 2 ^ (7 * i) := Int.mul_nonneg (by omega) (by omega)
    exact ih (i + 1) _ k (by omega) (by omega) q3 (by omega)
theorem zig_back (n : Int) (hn : -9223372036854775808 ≤ n ∧ n ≤ 9223372036854775807) : ∃ z, impl_ZigZag.f n = some z ∧ impl_UnZigZag.f z = some n := by
  unfold impl_ZigZag.f impl_UnZigZag.f
  have hw := w64_range (n * 2)
  by_cases h : n < 0
  · refine ⟨_, rfl, ?_⟩
    rw [show n / 9223372036854775808 = -1 by omega, xor_ones_i64 _ hw.1 hw.2]
    have h1 : Go.bits .and .i64 (-1 - wrap64 (n * 2)) 1 = (-1 - wrap64 (n * 2)) % 2 := and_i64 1 (by decide) _
    have e2 : (-1 - wrap64 (n * 2)) % 2 = 1 := by unfold wrap64; omega
    rw [h1, e2, wu64, show wrap64 (-1) = -1 by unfold wrap64; rfl, xor_ones_i64 _ (w64_range _).1 (w64_range _).2]
    congr 1
    unfold wrap64
    omega
  · refine ⟨_, rfl, ?_⟩
    rw [show n / 9223372036854775808 = 0 by omega, xor_zero_i64 _ hw.1 hw.2]
    have h1 : Go.bits .and .i64 (wrap64 (n * 2)) 1 = (wrap64 (n * 2)) % 2 := and_i64 1 (by decide) _
    have e2 : (wrap64 (n * 2)) % 2 = 0 := by unfold wrap64; omega
    rw [h1, e2, wu64, show wrap64 (-0) = 0 by unfold wrap64; rfl, xor_zero_i64 _ (w64_range _).1 (w64_range _).2]
    congr 1
    unfold wrap64
    omega

theorem impl_pv_any (k : Nat) (n : Int) (hk : 11 ≤ k) : impl_PutVarint.f k n = some (vbytes (uns n)) :=
  at_rounds (fun k => impl_PutVarint.mono n k) hk (impl_pv 11 n (by omega) (by omega))
theorem gv_zero (k : Nat) (l : List Int) : impl_GetVarint.f k l 0 = impl_GetVarint.l0 k l 0 0 0 := by
  unfold impl_GetVarint.f impl_within.f
  rw [if_pos (by decide)]
  simp only [Option.bind_some]
  rw [if_pos (by simp)]
theorem uns_back (n : Int) (hn : -9223372036854775808 ≤ n ∧ n ≤ 9223372036854775807) : wrap64 ((uns n : Nat) : Int) = n := by
  unfold uns wrap64; omega
theorem long_read (n : Int) (hn : -9223372036854775808 ≤ n ∧ n ≤ 9223372036854775807) (h9 : (vbytes (uns n)).length < 9) (k : Nat) (hk : 50 ≤ k) : impl_GetVarint.f k (vlong (uns n)) 0 = some (n, ((vlong (uns n)).length : Int), 0) := by
  have hp := vbytes_pos (uns n)
  have hu := uns_lt n
  have hub := uns_back n hn
  generalize uns n = m at *
  have e1 : (vlong m).drop (0 + 0) = vlong m ++ [] := by simp
  have e2 : (0 : Int) + (m : Int) * 2 ^ (7 * 0) = (m : Int) := by simp
  have e3 : (m : Int) * 2 ^ (7 * 0) + (0 : Int) = (m : Int) := by simp
  have hg := gv_long (vlong m) 0 (by rw [vlong_length]; omega) m m 0 0 [] k (Nat.le_refl _) e1 (Int.le_refl _) (by decide) (by rw [e3]; omega) (by omega) (by omega)
  rw [e2, hub] at hg
  rw [gv_zero]
  have e4 : ((0 : Nat) : Int) + ((0 : Nat) : Int) + ((vlong m).length : Int) = ((vlong m).length : Int) := by omega
  rw [e4] at hg
  exact hg
theorem tail_ok (k : Nat) (hk : 100 ≤ k) (n : Int) (hn : -9223372036854775808 ≤ n ∧ n ≤ 9223372036854775807) : laws_FnVarint.j0 k n (vbytes (uns n)) false = some true := by
  obtain ⟨k, rfl⟩ : ∃ m, k = m + 1 := ⟨k - 1, by omega⟩
  have hl := pv_length n
  have hp := vbytes_pos (uns n)
  obtain ⟨init, last, h1, h2, h3, h4⟩ := vbytes_cut (uns n)
  have hlen : (vbytes (uns n)).length = init.length + 1 := by rw [h1]; simp
  have hcut : (vbytes (uns n)).take ((wrap64 (((vbytes (uns n)).length : Int) - 1)) : Int).toNat = init := by
    rw [w64 (by omega) (by omega), h1]
    simp
  have hlast : rd (vbytes (uns n)) (wrap64 (((vbytes (uns n)).length : Int) - 1)) = last := by
    rw [w64 (by omega) (by omega), show ((vbytes (uns n)).length : Int) - 1 = (init.length : Int) by omega, rd_nat _ _ (by omega)]
    simp [h1]
  have hshort : impl_GetVarint.f k init 0 = some (0, 0, 1) := by
    rw [gv_zero]
    exact gv_short init h4 (by omega) init.length 0 0 k (by omega) (by decide) (by decide) (by omega)
  have hw : wrap64 (((vbytes (uns n)).length : Int) - 1) = ((vbytes (uns n)).length : Int) - 1 := w64 (by omega) (by omega)
  have hle : 0 ≤ wrap64 (((vbytes (uns n)).length : Int) - 1) := by omega
  have hle2 : wrap64 (((vbytes (uns n)).length : Int) - 1) ≤ ((vbytes (uns n)).length : Int) := by omega
  have hlt : wrap64 (((vbytes (uns n)).length : Int) - 1) < ((vbytes (uns n)).length : Int) := by omega
  simp only [laws_FnVarint.j0, Bool.false_eq_true, if_false, hcut, hlast, hshort, Option.bind_some, if_pos hle, if_pos hle2, if_pos hlt]
  by_cases h9 : ((vbytes (uns n)).length : Int) < 9
  · rw [if_pos h9]
    have e : (last + 128) % 256 = last + 128 := by omega
    have hy : ([] : List Int) ++ init ++ [last + 128, 0] = vlong (uns n) := by rw [h2]; rfl
    rw [e]
    have l1 : ([] : List Int).length + init.length < 140737488355328 := by simp; omega
    have l2 : (([] : List Int) ++ init).length + [last + 128, (0 : Int)].length < 140737488355328 := by simp; omega
    rw [if_pos l1, if_pos l2, hy]
    rw [long_read n hn (by omega) k (by omega)]
    simp only [Option.bind_some, if_true]
    rfl
  · rw [if_neg h9]; rfl
theorem FnVarint : laws_FnVarint.Pure := by
  intro l hl hl2 hb
  refine ⟨l.length + 200, ?_⟩
  unfold laws_FnVarint.f laws_big.f
  simp only [Option.bind_some]
  by_cases hbig : (l.length : Int) > 1048576
  · rw [if_pos (by simpa using hbig)]
  · rw [if_neg (by simpa using hbig)]
    obtain ⟨n, hd, hn⟩ := drawpv_some l (by omega) (l.length + 200) (by omega)
    have hpl := pv_length n
    have hpos := vbytes_pos (uns n)
    rw [hd]
    simp only [Option.bind_some, impl_pv_any _ n (show 11 ≤ l.length + 200 by omega)]
    have l1 : [(7 : Int), 7].length + (vbytes (uns n)).length < 140737488355328 := by simp; omega
    have l2 : ([(7 : Int), 7] ++ vbytes (uns n)).length < 140737488355328 := by simp; omega
    rw [if_pos l1, if_pos l2]
    have hg := gv_at ([(7 : Int), 7] ++ vbytes (uns n) ++ [200]) 2 (by simp; omega) n hn [200] (by simp) (l.length + 200) (by omega)
    rw [show ((2 : Nat) : Int) = 2 from rfl] at hg
    obtain ⟨z, z1, z2⟩ := zig_back n hn
    rw [hg]
    simp only [Option.bind_some, z1, z2, if_true]
    rw [w64 (n := 2 + ((vbytes (uns n)).length : Int)) (by omega) (by omega), if_pos rfl, if_neg (by omega), show (n != n) = false from bne_self_eq_false _]
    exact tail_ok _ (by omega) n hn

end Go.Proofs.Ytmmdkjihigadcaa.Pure
