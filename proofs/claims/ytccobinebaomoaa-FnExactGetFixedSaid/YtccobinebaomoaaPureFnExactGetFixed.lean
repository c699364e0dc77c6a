/- GetFixed: for all bytes, places and sizes both read the same number, place and code, and nothing is written into the bytes. No condition. -/
import Derived.Test.YtccobinebaomoaaPFnExactGetFixedx2
import Derived.Test.YtccobinebaomoaaLib
set_option linter.unusedSimpArgs false
set_option linter.unusedVariables false
namespace Go.Proofs.Ytccobinebaomoaa.Pure
open Go Go.RowKit Go.Proofs.Ytccobinebaomoaa.PFnExactGetFixed Go.Proofs.YtccobinebaomoaaW.PrintWords Go.Proofs.YtccobinebaomoaaW.PrintLast Go.Proofs.YtccobinebaomoaaW.PrintMore Go.Proofs.Ytccobinebaomoaa.Lib

theorem eqb_from (a : List Int) (ha : a.length ≤ 140737488355328) : ∀ (d k : Nat) (i : Int), 0 ≤ i → i ≤ a.length → a.length - i = d → d < k → laws_eqByteS.l0 k a a i = some true := by
  intro d
  induction d with
  | zero =>
    intro k i h0 h1 hd hk
    obtain ⟨k, rfl⟩ : ∃ m, k = m + 1 := ⟨k - 1, by omega⟩
    simp only [laws_eqByteS.l0]; rw [if_neg (by omega)]
  | succ d ih =>
    intro k i h0 h1 hd hk
    obtain ⟨k, rfl⟩ : ∃ m, k = m + 1 := ⟨k - 1, by omega⟩
    simp only [laws_eqByteS.l0]
    rw [if_pos (by omega), if_pos h0, if_pos (by omega), if_true, w64 (n := i + 1) (by omega) (by omega)]
    exact ih k (i + 1) (by omega) (by omega) (by omega) (by omega)
theorem eqb_self (a : List Int) (ha : a.length ≤ 140737488355328) (k : Nat) (hk : a.length < k) : laws_eqByteS.f k a a = some true := by
  unfold laws_eqByteS.f
  rw [if_pos rfl]
  exact eqb_from a ha a.length k 0 (by omega) (by omega) (by omega) hk

theorem tob_from (a : List Int) (ha : a.length ≤ 140737488355328) : ∀ (d k : Nat) (i : Nat) (o : List Int), i ≤ a.length → a.length - i = d → o.length = a.length → (∀ j, j < i → o[j]? = a[j]?) → d < k → laws_toByteS.l0 k a o (i : Int) = some a := by
  intro d
  induction d with
  | zero =>
    intro k i o h1 hd ho hj hk
    obtain ⟨k, rfl⟩ : ∃ m, k = m + 1 := ⟨k - 1, by omega⟩
    simp only [laws_toByteS.l0]; rw [if_neg (by omega)]
    refine congrArg some (List.ext_getElem? fun j => ?_)
    by_cases hji : j < i
    · exact hj j hji
    · rw [List.getElem?_eq_none (by omega), List.getElem?_eq_none (by omega)]
  | succ d ih =>
    intro k i o h1 hd ho hj hk
    obtain ⟨k, rfl⟩ : ∃ m, k = m + 1 := ⟨k - 1, by omega⟩
    simp only [laws_toByteS.l0]
    rw [if_pos (by omega), if_pos (by omega), if_pos (by omega), w64 (n := (i : Int) + 1) (by omega) (by omega), show (i : Int) + 1 = ((i + 1 : Nat) : Int) by omega]
    refine ih k (i + 1) _ (by omega) (by omega) (by simp [ho]) ?_ (by omega)
    intro j hji
    rw [show ((i : Int)).toNat = i by omega, rd_nat a i (by omega)]
    by_cases e : j = i
    · subst e
      rw [List.getElem?_set_self (by omega), List.getElem?_eq_getElem (by omega)]
    · rw [List.getElem?_set_ne (by omega)]
      exact hj j (by omega)
theorem tob_same (a : List Int) (ha : a.length ≤ 140737488355328) (k : Nat) (hk : a.length < k) : laws_toByteS.f k a = some a := by
  unfold laws_toByteS.f
  rw [if_pos (by omega), if_pos (by omega)]
  exact tob_from a ha a.length k 0 _ (by omega) (by omega) (by simp) (by intro j h; omega) hk

/-- The number of the first n bytes from a place on, the lowest first. -/
def fval (l : List Int) (p : Int) : Nat → Int
  | 0 => 0
  | n + 1 => fval l p n + rd l (p + n) * 256 ^ n
theorem fval_range (l : List Int) (p : Int) (hb : ∀ x ∈ l, (Lit.int .u8 x).wf = true) : ∀ n, 0 ≤ fval l p n ∧ fval l p n < 256 ^ n
  | 0 => by simp [fval]
  | n + 1 => by
    have ih := fval_range l p hb n
    have hr := rd_byte hb (p + n)
    have hp : (0 : Int) < 256 ^ n := Int.pow_pos (by decide)
    have h1 : 0 ≤ rd l (p + n) * 256 ^ n := Int.mul_nonneg hr.1 (by omega)
    have h2 : rd l (p + n) * 256 ^ n ≤ 255 * 256 ^ n := Int.mul_le_mul_of_nonneg_right (by omega) (by omega)
    have e : (256 : Int) ^ (n + 1) = 256 * 256 ^ n := by rw [Int.pow_succ]; omega
    simp only [fval]; omega
theorem pow8 (i : Nat) : (256 : Int) ^ i = 2 ^ (8 * i) := by rw [Int.pow_mul]; rfl
theorem impl_gf (l : List Int) (p s : Int) (hb : ∀ x ∈ l, (Lit.int .u8 x).wf = true) (hp : 0 ≤ p) (hs : s = 4 ∨ s = 8) (hl : p + s ≤ l.length) (hlen : l.length ≤ 140737488355328) : ∀ (d k i : Nat), (i : Int) + d = s → d < k →
    impl_GetFixed.l0 k l p s (fval l p i) (i : Int) = some (wrap64 (fval l p s.toNat), wrap64 (p + s), 0) := by
  intro d
  induction d with
  | zero =>
    intro k i h hk
    obtain ⟨k, rfl⟩ : ∃ m, k = m + 1 := ⟨k - 1, by omega⟩
    simp only [impl_GetFixed.l0]
    rw [if_neg (by omega), show s.toNat = i by omega]
  | succ d ih =>
    intro k i h hk
    obtain ⟨k, rfl⟩ : ∃ m, k = m + 1 := ⟨k - 1, by omega⟩
    have hr := rd_byte hb (p + i)
    have hf := fval_range l p hb i
    have hf1 := fval_range l p hb (i + 1)
    have hpow : (256 : Int) ^ (i + 1) ≤ 256 ^ 8 := pow256_le (by omega)
    simp only [fval] at hf1
    have hp0 : (0 : Int) < 256 ^ i := Int.pow_pos (by decide)
    have hnn : 0 ≤ rd l (p + i) * 256 ^ i := Int.mul_nonneg hr.1 (by omega)
    have hsh : shl .u64 (IntKind.u64.wrap (rd l (p + i))) (wrap64 (8 * (i : Int))) = rd l (p + i) * 256 ^ i := by
      unfold shl
      rw [w64 (by omega) (by omega), show min (8 * (i : Int)).toNat IntKind.u64.bits = 8 * i by simp only [IntKind.bits]; omega, wu64_id hr.1 (by omega), ← pow8, wu64_id hnn (by omega)]
    simp only [impl_GetFixed.l0]
    rw [if_pos (by omega), w64 (n := p + (i : Int)) (by omega) (by omega), if_pos (by omega), if_pos (by omega), hsh, w64 (n := 8 * (i : Int)) (by omega) (by omega), if_pos (by omega),
      or_u64 (8 * i) _ _ hf.1 (by rw [← pow8]; exact hf.2) hnn (by omega) (by rw [← pow8]; exact Int.mul_emod_left _ _) (by omega), w64 (n := (i : Int) + 1) (by omega) (by omega), show (i : Int) + 1 = ((i + 1 : Nat) : Int) by omega]
    exact ih k (i + 1) (by omega) (by omega)
/-- Both readers of a fixed number answer the same. -/
def fixedOf (l : List Int) (p s : Int) : Int × Int × Int := if (s = 4 ∨ s = 8) ∧ 0 ≤ p ∧ p + s ≤ l.length then (wrap64 (fval l p s.toNat), wrap64 (p + s), 0) else (0, 0, 1)
theorem gf_impl (l : List Int) (p s : Int) (hb : ∀ x ∈ l, (Lit.int .u8 x).wf = true) (hlen : l.length ≤ 140737488355328) (k : Nat) (hk : 10 ≤ k) : impl_GetFixed.f k l p s = some (fixedOf l p s) := by
  obtain ⟨k, rfl⟩ : ∃ m, k = m + 1 := ⟨k - 1, by omega⟩
  have go : ∀ b : Bool, (s = 4 ∨ s = 8) → 0 ≤ p → p ≤ l.length → b = decide (s > wrap64 ((l.length : Int) - p)) → impl_GetFixed.j0 (k + 1) l p s b = some (fixedOf l p s) := by
    intro b hs h0 hpl hbb
    simp only [impl_GetFixed.j0]
    rw [w64 (by omega) (by omega)] at hbb
    unfold fixedOf
    by_cases h : s > (l.length : Int) - p
    · rw [decide_eq_true h] at hbb
      rw [hbb, if_pos rfl, if_neg (by omega)]
    · rw [decide_eq_false h] at hbb
      rw [hbb, if_neg (by decide), if_pos (by omega)]
      exact impl_gf l p s hb h0 hs (by omega) hlen s.toNat k 0 (by omega) (by omega)
  have bad : ¬ ((s = 4 ∨ s = 8) ∧ 0 ≤ p ∧ p ≤ l.length) → impl_GetFixed.j0 (k + 1) l p s true = some (fixedOf l p s) := by
    intro h
    simp only [impl_GetFixed.j0, if_true]
    unfold fixedOf
    rw [if_neg (by omega)]
  unfold impl_GetFixed.f impl_within.f
  by_cases h0 : p ≥ 0
  · rw [if_pos h0]
    by_cases h1 : p ≤ (l.length : Int)
    · simp only [Option.bind_some, decide_eq_true h1, if_true]
      by_cases h4 : s = 4
      · rw [if_pos h4, go _ (by omega) (by omega) (by omega) rfl]
      · rw [if_neg h4]
        by_cases h8 : s = 8
        · rw [if_pos h8, go _ (by omega) (by omega) (by omega) rfl]
        · rw [if_neg h8, bad (by omega)]
    · simp only [Option.bind_some, decide_eq_false h1, Bool.false_eq_true, if_false]
      exact bad (by omega)
  · rw [if_neg h0]
    simp only [Option.bind_some, Bool.false_eq_true, if_false]
    exact bad (by omega)

/-- The same number from the highest byte on: what is above place i. -/
theorem fval_cut (l : List Int) (p : Int) (hb : ∀ x ∈ l, (Lit.int .u8 x).wf = true) (n : Nat) : fval l p (n + 1) / 256 ^ n = rd l (p + n) := by
  have h := fval_range l p hb n
  have hp0 : (0 : Int) < 256 ^ n := Int.pow_pos (by decide)
  simp only [fval]
  rw [Int.add_mul_ediv_right _ _ (by omega), Int.ediv_eq_zero_of_lt h.1 h.2]; omega
theorem spec_gf (l : List Int) (p s : Int) (hb : ∀ x ∈ l, (Lit.int .u8 x).wf = true) (hp : 0 ≤ p) (hs : s = 4 ∨ s = 8) (hl : p + s ≤ l.length) (hlen : l.length ≤ 140737488355328) : ∀ (i k : Nat) (x : Int), (i : Int) ≤ s → i < k →
    0 ≤ x → x * 256 ^ i + fval l p i = fval l p s.toNat →
    spec_GetFixed.l0 k l p s x ((i : Int) - 1) = some (wrap64 (fval l p s.toNat), wrap64 (p + s), 0) := by
  intro i
  induction i with
  | zero =>
    intro k x h hk hx he
    obtain ⟨k, rfl⟩ : ∃ m, k = m + 1 := ⟨k - 1, by omega⟩
    simp only [spec_GetFixed.l0]
    rw [if_neg (by omega)]
    have : x = fval l p s.toNat := by simpa [fval] using he
    rw [this]
  | succ i ih =>
    intro k x h hk hx he
    obtain ⟨k, rfl⟩ : ∃ m, k = m + 1 := ⟨k - 1, by omega⟩
    have hr := rd_byte hb (p + i)
    have hf := fval_range l p hb s.toNat
    have hf1 := fval_range l p hb i
    have hpow : (256 : Int) ^ s.toNat ≤ 256 ^ 8 := pow256_le (by omega)
    have hp0 : (0 : Int) < 256 ^ i := Int.pow_pos (by decide)
    have e : x * (256 : Int) ^ (i + 1) = (x * 256) * 256 ^ i := by rw [Int.pow_succ, Int.mul_assoc, Int.mul_comm (256 ^ i)]
    have e2 : (x * 256 + rd l (p + i)) * 256 ^ i + fval l p i = fval l p s.toNat := by
      rw [← he, e]; simp only [fval]; rw [Int.add_mul]; omega
    have hx2 : x * 256 + rd l (p + i) < 18446744073709551616 := by
      have h1 : (x * 256 + rd l (p + i)) * 1 ≤ (x * 256 + rd l (p + i)) * 256 ^ i := Int.mul_le_mul_of_nonneg_left (by omega) (by omega)
      omega
    simp only [spec_GetFixed.l0]
    rw [if_pos (by omega), show ((i + 1 : Nat) : Int) - 1 = (i : Int) by omega, w64 (n := p + (i : Int)) (by omega) (by omega), if_pos (by omega), if_pos (by omega),
      wu64_id (n := x * 256) (by omega) (by omega), wu64_id (n := rd l (p + i)) (by omega) (by omega), wu64_id (n := x * 256 + rd l (p + i)) (by omega) hx2, w64 (n := (i : Int) - 1) (by omega) (by omega)]
    exact ih k _ (by omega) (by omega) (by omega) e2
theorem gf_spec (l : List Int) (p s : Int) (hb : ∀ x ∈ l, (Lit.int .u8 x).wf = true) (hp64 : -9223372036854775808 ≤ p ∧ p ≤ 9223372036854775807) (hlen : l.length ≤ 140737488355328) (k : Nat) (hk : 10 ≤ k) : spec_GetFixed.f k l p s = some (fixedOf l p s) := by
  obtain ⟨k, rfl⟩ : ∃ m, k = m + 1 := ⟨k - 1, by omega⟩
  have go : ∀ b : Bool, (s = 4 ∨ s = 8) → 0 ≤ p → b = decide (p > wrap64 ((l.length : Int) - s)) → spec_GetFixed.j0 (k + 1) l p s b = some (fixedOf l p s) := by
    intro b hs h0 hbb
    simp only [spec_GetFixed.j0]
    rw [w64 (by omega) (by omega)] at hbb
    unfold fixedOf
    by_cases h : p > (l.length : Int) - s
    · rw [decide_eq_true h] at hbb
      rw [hbb, if_pos rfl, if_neg (by omega)]
    · rw [decide_eq_false h] at hbb
      rw [hbb, if_neg (by decide), if_pos (by omega), w64 (by omega) (by omega)]
      have := spec_gf l p s hb h0 hs (by omega) hlen s.toNat k 0 (by omega) (by omega) (by omega) (by simp)
      rw [show ((s.toNat : Nat) : Int) - 1 = s - 1 by omega] at this
      exact this
  have bad : (¬ (s = 4 ∨ s = 8) ∨ p < 0) → spec_GetFixed.j0 (k + 1) l p s true = some (fixedOf l p s) := by
    intro h
    simp only [spec_GetFixed.j0, if_true]
    unfold fixedOf
    rw [if_neg (by omega)]
  unfold spec_GetFixed.f
  by_cases h4 : s = 4
  · rw [if_pos h4]
    by_cases h0 : p < 0
    · rw [if_pos h0, bad (by omega)]
    · rw [if_neg h0, go _ (by omega) (by omega) rfl]
  · rw [if_neg h4]
    by_cases h8 : s = 8
    · rw [if_pos h8]
      by_cases h0 : p < 0
      · rw [if_pos h0, bad (by omega)]
      · rw [if_neg h0, go _ (by omega) (by omega) rfl]
    · rw [if_neg h8, bad (by omega)]


theorem FnExactGetFixed : laws_FnExactGetFixed.Pure := by
  intro l a s hl hl2 hb ha hs
  refine ⟨1048600, ?_⟩
  unfold laws_FnExactGetFixed.f
  by_cases hbig : (l.length : Int) > 1048576
  · rw [if_pos hbig]
  · rw [if_neg hbig]
    have ht := tob_same l (by omega) 1048600 (by omega)
    have ht' := tob_same l (by omega) 1048599 (by omega)
    have he := eqb_self l (by omega) 1048599 (by omega)
    have h1 := gf_spec l a s hb (wf_i64 ha) (by omega) 1048600 (by omega)
    have h2 := gf_impl l a s hb (by omega) 1048600 (by omega)
    simp only [ht, h1, h2, Option.bind_some, if_true]
    rw [show laws_FnExactGetFixed.j0 1048600 l l ((fixedOf l a s).2.2 != (fixedOf l a s).2.2) = laws_FnExactGetFixed.j0 (1048599 + 1) l l ((fixedOf l a s).2.2 != (fixedOf l a s).2.2) from rfl]
    simp only [laws_FnExactGetFixed.j0, bne_self_eq_false, Bool.false_eq_true, if_false, ht', he, Option.bind_some, if_true]

end Go.Proofs.Ytccobinebaomoaa.Pure
