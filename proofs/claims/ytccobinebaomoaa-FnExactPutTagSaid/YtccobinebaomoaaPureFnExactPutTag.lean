/- PutTag: for every number and wire both write the same bytes, or none, and the answer owns its memory. No condition. -/
import Derived.Test.YtccobinebaomoaaPFnExactPutTagx2
import Derived.Test.YtccobinebaomoaaLib
set_option linter.unusedSimpArgs false
set_option linter.unusedVariables false
namespace Go.Proofs.Ytccobinebaomoaa.Pure
open Go Go.RowKit Go.Proofs.Ytccobinebaomoaa.PFnExactPutTag Go.Proofs.YtccobinebaomoaaW.PrintWords Go.Proofs.YtccobinebaomoaaW.PrintLast Go.Proofs.YtccobinebaomoaaW.PrintMore Go.Proofs.Ytccobinebaomoaa.Lib

theorem eqb_from (a : List Int) (ha : a.length ≤ 140737488355328) : ∀ (d k : Nat) (i : Int), 0 ≤ i → i ≤ a.length → a.length - i = d → d < k → laws_eqByteS.l0 k a a i = some true := by
  intro d
  induction d with
  | zero =>
    intro k i h0 h1 hd hk
    obtain ⟨k, rfl⟩ : ∃ m, k = m + 1 := ⟨k - 1, by omega⟩
    simp only [laws_eqByteS.l0]; rw [if_neg (by omega)]
  | succ d ih =>
    intro k i h0 h1 hd hk
    obtain ⟨k, rfl⟩ : ∃ m, k = m + 1 := ⟨k - 1, by omega⟩
    simp only [laws_eqByteS.l0]
    rw [if_pos (by omega), if_pos h0, if_pos (by omega), if_true, w64 (n := i + 1) (by omega) (by omega)]
    exact ih k (i + 1) (by omega) (by omega) (by omega) (by omega)
theorem eqb_self (a : List Int) (ha : a.length ≤ 140737488355328) (k : Nat) (hk : a.length < k) : laws_eqByteS.f k a a = some true := by
  unfold laws_eqByteS.f
  rw [if_pos rfl]
  exact eqb_from a ha a.length k 0 (by omega) (by omega) (by omega) hk

theorem markb_from (o : Nat) : ∀ (d k : Nat) (a : List Int) (i : Nat), i ≤ a.length → a.length - i = d → a.length ≤ 140737488355328 → (∀ j, j < i → a[j]? = some (((j : Int) + 1) % 256)) → d < k →
    ∃ b, laws_markByteS.l0 k a ((i : Int) + 1) (i : Int) = some ((a.length : Int) + 1, b) ∧ b.length = a.length ∧ ∀ j, j < b.length → b[j]? = some (((j : Int) + 1) % 256) := by
  intro d
  induction d with
  | zero =>
    intro k a i h1 hd ha hj hk
    obtain ⟨k, rfl⟩ : ∃ m, k = m + 1 := ⟨k - 1, by omega⟩
    simp only [laws_markByteS.l0]; rw [if_neg (by omega)]
    exact ⟨a, by rw [show i = a.length by omega], rfl, fun j h => hj j (by omega)⟩
  | succ d ih =>
    intro k a i h1 hd ha hj hk
    obtain ⟨k, rfl⟩ : ∃ m, k = m + 1 := ⟨k - 1, by omega⟩
    simp only [laws_markByteS.l0]
    rw [if_pos (by omega), if_pos (by omega), w64 (n := (i : Int) + 1) (by omega) (by omega), w64 (n := (i : Int) + 1 + 1) (by omega) (by omega), show (i : Int) + 1 = ((i + 1 : Nat) : Int) by omega]
    have side : ∀ j, j < i + 1 → (a.set i ((((i + 1 : Nat) : Int)) % 256))[j]? = some (((j : Int) + 1) % 256) := by
      intro j hji
      by_cases e : j = i
      · subst e; rw [List.getElem?_set_self (by omega)]; simp
      · rw [List.getElem?_set_ne (by omega)]; exact hj j (by omega)
    obtain ⟨b, h1, h2, h3⟩ := ih k (a.set i ((((i + 1 : Nat) : Int)) % 256)) (i + 1) (by simp; omega) (by simp; omega) (by simpa using ha) side (by omega)
    refine ⟨b, ?_, by simpa using h2, h3⟩
    rw [show ((i : Int)).toNat = i by omega, h1, List.length_set]
theorem heldb_from (b : List Int) (hb : b.length ≤ 140737488355328) (hv : ∀ j, j < b.length → b[j]? = some (((j : Int) + 1) % 256)) : ∀ (d k : Nat) (i : Nat), i ≤ b.length → b.length - i = d → d < k →
    laws_heldByteS.l0 k b ((i : Int) + 1) (i : Int) = some ((b.length : Int) + 1) := by
  intro d
  induction d with
  | zero =>
    intro k i h1 hd hk
    obtain ⟨k, rfl⟩ : ∃ m, k = m + 1 := ⟨k - 1, by omega⟩
    simp only [laws_heldByteS.l0]; rw [if_neg (by omega), show i = b.length by omega]
  | succ d ih =>
    intro k i h1 hd hk
    obtain ⟨k, rfl⟩ : ∃ m, k = m + 1 := ⟨k - 1, by omega⟩
    have hr : rd b (i : Int) = ((i : Int) + 1) % 256 := by
      have := hv i (by omega)
      rw [rd_nat b i (by omega)]
      rw [List.getElem?_eq_getElem (by omega)] at this
      injection this
    simp only [laws_heldByteS.l0]
    rw [if_pos (by omega), if_pos (by omega), if_pos hr, w64 (n := (i : Int) + 1) (by omega) (by omega), w64 (n := (i : Int) + 1 + 1) (by omega) (by omega), show (i : Int) + 1 = ((i + 1 : Nat) : Int) by omega]
    exact ih k (i + 1) (by omega) (by omega) (by omega)
/-- What is marked is held. -/
theorem markb (a : List Int) (ha : a.length ≤ 140737488355328) (k : Nat) (hk : a.length < k) : ∃ b, laws_markByteS.f k a 1 = some ((a.length : Int) + 1, b) ∧ laws_heldByteS.f k b 1 = some ((a.length : Int) + 1) := by
  obtain ⟨b, h1, h2, h3⟩ := markb_from 0 a.length k a 0 (by omega) (by omega) ha (by intro j h; omega) hk
  refine ⟨b, h1, ?_⟩
  have := heldb_from b (by omega) h3 b.length k 0 (by omega) (by omega) (by omega)
  rw [h2] at this
  exact this

/-- The bytes of a varint. -/
def vbytes (n : Nat) : List Int := if n < 128 then [(n : Int)] else ((n : Int) % 128 + 128) :: vbytes (n / 128)
termination_by n
decreasing_by omega
theorem vbytes_small {n : Nat} (h : n < 128) : vbytes n = [(n : Int)] := by rw [vbytes, if_pos h]
theorem vbytes_big {n : Nat} (h : ¬ n < 128) : vbytes n = ((n : Int) % 128 + 128) :: vbytes (n / 128) := by rw [vbytes, if_neg h]
theorem spec_pv_from : ∀ (k n : Nat) (o : List Int), n < 128 ^ k → n < 18446744073709551616 → o.length + k < 1000 → spec_PutVarint.l0 (k + 1) (n : Int) o = some (o ++ vbytes n)
  | 0, n, o, h, _, _ => by
    have : n = 0 := by omega
    subst this
    simp only [spec_PutVarint.l0]
    rw [if_neg (by decide), if_pos (by omega), vbytes_small (by decide)]; rfl
  | k + 1, n, o, h, hn, ho => by
    rw [spec_PutVarint.l0]
    by_cases hs : n < 128
    · rw [if_neg (by omega), if_pos (by omega), vbytes_small hs, show (n : Int) % 256 = n by omega]
    · have e1 : IntKind.u64.wrap (Int.tdiv (n : Int) 128) = ((n / 128 : Nat) : Int) := by
        rw [Int.tdiv_eq_ediv_of_nonneg (by omega), wu64]; omega
      have e2 : IntKind.u64.wrap (Int.tmod (n : Int) 128 + 128) % 256 = (n : Int) % 128 + 128 := by
        rw [Int.tmod_eq_emod_of_nonneg (by omega), wu64]; omega
      have hp : n < 128 ^ k * 128 := by rw [← Nat.pow_succ]; exact h
      rw [if_pos (by omega), if_pos (by omega), e1, e2, spec_pv_from k (n / 128) _ (Nat.div_lt_of_lt_mul (by omega)) (by omega) (by simp; omega), vbytes_big hs]
      simp
theorem impl_pv_from : ∀ (k n : Nat) (o : List Int), n < 128 ^ k → n < 18446744073709551616 → o.length + k < 1000 → impl_PutVarint.l0 (k + 1) o (n : Int) = some (o ++ vbytes n)
  | 0, n, o, h, _, _ => by
    have : n = 0 := by omega
    subst this
    simp only [impl_PutVarint.l0]
    rw [if_neg (by decide), if_pos (by omega), vbytes_small (by decide)]; rfl
  | k + 1, n, o, h, hn, ho => by
    rw [impl_PutVarint.l0]
    by_cases hs : n < 128
    · rw [if_neg (by omega), if_pos (by omega), vbytes_small hs, show (n : Int) % 256 = n by omega]
    · have e1 : (n : Int) / 128 = ((n / 128 : Nat) : Int) := by omega
      have hp : n < 128 ^ k * 128 := by rw [← Nat.pow_succ]; exact h
      rw [if_pos (by omega), if_pos (by omega), or128 _ (by omega) (by omega), e1, impl_pv_from k (n / 128) _ (Nat.div_lt_of_lt_mul (by omega)) (by omega) (by simp; omega), vbytes_big hs, show (n : Int) % 256 % 128 = (n : Int) % 128 by omega]
      simp
theorem vbytes_length : ∀ (k n : Nat), n < 128 ^ (k + 1) → (vbytes n).length ≤ k + 1
  | 0, n, h => by rw [vbytes_small (by omega)]; simp
  | k + 1, n, h => by
    by_cases hs : n < 128
    · rw [vbytes_small hs]; simp
    · have hp : n < 128 ^ (k + 1) * 128 := by rw [← Nat.pow_succ]; exact h
      rw [vbytes_big hs]
      have := vbytes_length k (n / 128) (Nat.div_lt_of_lt_mul (by omega))
      simp; omega
/-- The number as one without a sign. -/
def uns (n : Int) : Nat := (n % 18446744073709551616).toNat
theorem uns_lt (n : Int) : uns n < 18446744073709551616 := by unfold uns; omega
theorem spec_pv (k : Nat) (n : Int) (hk : 11 ≤ k) (hk2 : k < 1000) : spec_PutVarint.f k n = some (vbytes (uns n)) := by
  unfold spec_PutVarint.f
  obtain ⟨m, rfl⟩ : ∃ m, k = m + 1 := ⟨k - 1, by omega⟩
  rw [wu64, show n % 18446744073709551616 = ((uns n : Nat) : Int) by unfold uns; omega]
  have hp : (128 : Nat) ^ 10 ≤ 128 ^ m := Nat.pow_le_pow_right (by decide) (by omega)
  have := uns_lt n
  rw [spec_pv_from m (uns n) [] (by omega) this (by simp; omega)]
  rfl
theorem impl_pv (k : Nat) (n : Int) (hk : 11 ≤ k) (hk2 : k < 1000) : impl_PutVarint.f k n = some (vbytes (uns n)) := by
  unfold impl_PutVarint.f
  obtain ⟨m, rfl⟩ : ∃ m, k = m + 1 := ⟨k - 1, by omega⟩
  rw [wu64, show n % 18446744073709551616 = ((uns n : Nat) : Int) by unfold uns; omega]
  have hp : (128 : Nat) ^ 10 ≤ 128 ^ m := Nat.pow_le_pow_right (by decide) (by omega)
  have := uns_lt n
  rw [impl_pv_from m (uns n) [] (by omega) this (by simp; omega)]
  rfl
theorem pv_length (n : Int) : (vbytes (uns n)).length ≤ 10 := by
  have := uns_lt n
  exact vbytes_length 9 (uns n) (by omega)

/-- The bytes of a tag. -/
def tbytes (n w : Int) : List Int := if (1 ≤ n ∧ n ≤ 536870911) ∧ (w = 0 ∨ w = 1 ∨ w = 2 ∨ w = 5) then vbytes (uns (8 * n + w)) else []
theorem spec_pt (k : Nat) (n w : Int) (hk : 11 ≤ k) (hk2 : k < 1000) : spec_PutTag.f k n w = some (tbytes n w) := by
  unfold spec_PutTag.f spec_l1In.f spec_l1Wire.f tbytes
  by_cases h1 : 1 ≤ n
  · rw [if_pos h1]
    by_cases h2 : n ≤ 536870911
    · simp only [Option.bind_some, decide_eq_true h2, if_true]
      by_cases hw : w = 0 ∨ w = 1 ∨ w = 2 ∨ w = 5
      · rw [if_pos (c := _ ∧ _) ⟨⟨h1, h2⟩, hw⟩, spec_pv k _ hk hk2, show wrap64 (wrap64 (n * 8) + w) = 8 * n + w by unfold wrap64; omega]
        rcases hw with rfl | rfl | rfl | rfl <;> simp
      · rw [if_neg (c := _ ∧ _) (fun h => hw h.2)]
        rw [if_neg (by omega), if_neg (by omega), if_neg (by omega)]
        simp only [Option.bind_some]
        rw [if_neg (by simp; omega)]
    · rw [if_neg (c := _ ∧ _) (fun h => h2 h.1.2)]; simp [h2]
  · rw [if_neg h1, if_neg (c := _ ∧ _) (fun h => h1 h.1.1)]; simp
theorem impl_pt (k : Nat) (n w : Int) (hk : 11 ≤ k) (hk2 : k < 1000) : impl_PutTag.f k n w = some (tbytes n w) := by
  unfold impl_PutTag.f impl_within.f tbytes
  by_cases h1 : 1 ≤ n
  · rw [if_pos h1]
    by_cases h2 : n ≤ 536870911
    · simp only [Option.bind_some, decide_eq_true h2, if_true]
      rw [impl_pv k _ hk hk2]
      by_cases hw : w = 0 ∨ w = 1 ∨ w = 2 ∨ w = 5
      · rw [if_pos (c := _ ∧ _) ⟨⟨h1, h2⟩, hw⟩, show wrap64 (wrap64 (8 * n) + w) = 8 * n + w by unfold wrap64; omega]
        rcases hw with rfl | rfl | rfl | rfl <;> simp
      · rw [if_neg (c := _ ∧ _) (fun h => hw h.2)]
        rw [if_neg (by omega), if_neg (by omega), if_neg (by omega), if_neg (by omega)]
    · rw [if_neg (c := _ ∧ _) (fun h => h2 h.1.2)]; simp [h2]
  · rw [if_neg h1, if_neg (c := _ ∧ _) (fun h => h1 h.1.1)]; simp
theorem FnExactPutTag : laws_FnExactPutTag.Pure := by
  intro n w hn hw
  refine ⟨100, ?_⟩
  have hl : (tbytes n w).length ≤ 10 := by unfold tbytes; split; exact pv_length _; simp
  obtain ⟨b, h1, h2⟩ := markb (tbytes n w) (by omega) 100 (by omega)
  have h3 := eqb_self (tbytes n w) (by omega) 100 (by omega)
  unfold laws_FnExactPutTag.f
  rw [spec_pt 100 n w (by omega) (by omega), impl_pt 100 n w (by omega) (by omega)]
  simp only [Option.bind_some, h1, h2, h3, if_true]
  rw [if_neg (by omega), if_neg (by omega)]

end Go.Proofs.Ytccobinebaomoaa.Pure
