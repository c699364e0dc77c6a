/- PutFixed: for every number and size both write the same bytes, or none, and the answer owns its memory. No condition. -/
import Derived.Test.YtccobinebaomoaaPFnExactPutFixedx1
import Derived.Test.YtccobinebaomoaaLib
set_option linter.unusedSimpArgs false
set_option linter.unusedVariables false
namespace Go.Proofs.Ytccobinebaomoaa.Pure
open Go Go.RowKit Go.Proofs.Ytccobinebaomoaa.PFnExactPutFixed Go.Proofs.YtccobinebaomoaaW.PrintWords Go.Proofs.YtccobinebaomoaaW.PrintLast Go.Proofs.YtccobinebaomoaaW.PrintMore Go.Proofs.Ytccobinebaomoaa.Lib

theorem eqb_from (a : List Int) (ha : a.length ≤ 140737488355328) : ∀ (d k : Nat) (i : Int), 0 ≤ i → i ≤ a.length → a.length - i = d → d < k → laws_eqByteS.l0 k a a i = some true := by
  intro d
  induction d with
  | zero =>
    intro k i h0 h1 hd hk
    obtain ⟨k, rfl⟩ : ∃ m, k = m + 1 := ⟨k - 1, by omega⟩
    simp only [laws_eqByteS.l0]; rw [if_neg (by omega)]
  | succ d ih =>
    intro k i h0 h1 hd hk
    obtain ⟨k, rfl⟩ : ∃ m, k = m + 1 := ⟨k - 1, by omega⟩
    simp only [laws_eqByteS.l0]
    rw [if_pos (by omega), if_pos h0, if_pos (by omega), if_true, w64 (n := i + 1) (by omega) (by omega)]
    exact ih k (i + 1) (by omega) (by omega) (by omega) (by omega)
theorem eqb_self (a : List Int) (ha : a.length ≤ 140737488355328) (k : Nat) (hk : a.length < k) : laws_eqByteS.f k a a = some true := by
  unfold laws_eqByteS.f
  rw [if_pos rfl]
  exact eqb_from a ha a.length k 0 (by omega) (by omega) (by omega) hk

theorem markb_from (o : Nat) : ∀ (d k : Nat) (a : List Int) (i : Nat), i ≤ a.length → a.length - i = d → a.length ≤ 140737488355328 → (∀ j, j < i → a[j]? = some (((j : Int) + 1) % 256)) → d < k →
    ∃ b, laws_markByteS.l0 k a ((i : Int) + 1) (i : Int) = some ((a.length : Int) + 1, b) ∧ b.length = a.length ∧ ∀ j, j < b.length → b[j]? = some (((j : Int) + 1) % 256) := by
  intro d
  induction d with
  | zero =>
    intro k a i h1 hd ha hj hk
    obtain ⟨k, rfl⟩ : ∃ m, k = m + 1 := ⟨k - 1, by omega⟩
    simp only [laws_markByteS.l0]; rw [if_neg (by omega)]
    exact ⟨a, by rw [show i = a.length by omega], rfl, fun j h => hj j (by omega)⟩
  | succ d ih =>
    intro k a i h1 hd ha hj hk
    obtain ⟨k, rfl⟩ : ∃ m, k = m + 1 := ⟨k - 1, by omega⟩
    simp only [laws_markByteS.l0]
    rw [if_pos (by omega), if_pos (by omega), w64 (n := (i : Int) + 1) (by omega) (by omega), w64 (n := (i : Int) + 1 + 1) (by omega) (by omega), show (i : Int) + 1 = ((i + 1 : Nat) : Int) by omega]
    have side : ∀ j, j < i + 1 → (a.set i ((((i + 1 : Nat) : Int)) % 256))[j]? = some (((j : Int) + 1) % 256) := by
      intro j hji
      by_cases e : j = i
      · subst e; rw [List.getElem?_set_self (by omega)]; simp
      · rw [List.getElem?_set_ne (by omega)]; exact hj j (by omega)
    obtain ⟨b, h1, h2, h3⟩ := ih k (a.set i ((((i + 1 : Nat) : Int)) % 256)) (i + 1) (by simp; omega) (by simp; omega) (by simpa using ha) side (by omega)
    refine ⟨b, ?_, by simpa using h2, h3⟩
    rw [show ((i : Int)).toNat = i by omega, h1, List.length_set]
theorem heldb_from (b : List Int) (hb : b.length ≤ 140737488355328) (hv : ∀ j, j < b.length → b[j]? = some (((j : Int) + 1) % 256)) : ∀ (d k : Nat) (i : Nat), i ≤ b.length → b.length - i = d → d < k →
    laws_heldByteS.l0 k b ((i : Int) + 1) (i : Int) = some ((b.length : Int) + 1) := by
  intro d
  induction d with
  | zero =>
    intro k i h1 hd hk
    obtain ⟨k, rfl⟩ : ∃ m, k = m + 1 := ⟨k - 1, by omega⟩
    simp only [laws_heldByteS.l0]; rw [if_neg (by omega), show i = b.length by omega]
  | succ d ih =>
    intro k i h1 hd hk
    obtain ⟨k, rfl⟩ : ∃ m, k = m + 1 := ⟨k - 1, by omega⟩
    have hr : rd b (i : Int) = ((i : Int) + 1) % 256 := by
      have := hv i (by omega)
      rw [rd_nat b i (by omega)]
      rw [List.getElem?_eq_getElem (by omega)] at this
      injection this
    simp only [laws_heldByteS.l0]
    rw [if_pos (by omega), if_pos (by omega), if_pos hr, w64 (n := (i : Int) + 1) (by omega) (by omega), w64 (n := (i : Int) + 1 + 1) (by omega) (by omega), show (i : Int) + 1 = ((i + 1 : Nat) : Int) by omega]
    exact ih k (i + 1) (by omega) (by omega) (by omega)
/-- What is marked is held. -/
theorem markb (a : List Int) (ha : a.length ≤ 140737488355328) (k : Nat) (hk : a.length < k) : ∃ b, laws_markByteS.f k a 1 = some ((a.length : Int) + 1, b) ∧ laws_heldByteS.f k b 1 = some ((a.length : Int) + 1) := by
  obtain ⟨b, h1, h2, h3⟩ := markb_from 0 a.length k a 0 (by omega) (by omega) ha (by intro j h; omega) hk
  refine ⟨b, h1, ?_⟩
  have := heldb_from b (by omega) h3 b.length k 0 (by omega) (by omega) (by omega)
  rw [h2] at this
  exact this

/-- The lowest n bytes of a number, from byte i on. -/
def fbytes (x : Int) (i : Nat) : Nat → List Int
  | 0 => []
  | n + 1 => (x / 256 ^ i % 256) :: fbytes x (i + 1) n
theorem fbytes_length (x : Int) : ∀ n i, (fbytes x i n).length = n
  | 0, _ => rfl
  | n + 1, i => by simp [fbytes, fbytes_length x n (i + 1)]
theorem impl_pf (x s : Int) (hs : s = 4 ∨ s = 8) : ∀ (d k i : Nat) (o : List Int), (i : Int) + d = s → d < k → o.length + d < 1000 → impl_PutFixed.l0 k x s o (i : Int) = some (o ++ fbytes x i d) := by
  intro d
  induction d with
  | zero =>
    intro k i o h hk ho
    obtain ⟨k, rfl⟩ : ∃ m, k = m + 1 := ⟨k - 1, by omega⟩
    simp only [impl_PutFixed.l0]
    rw [if_neg (by omega)]; simp [fbytes]
  | succ d ih =>
    intro k i o h hk ho
    obtain ⟨k, rfl⟩ : ∃ m, k = m + 1 := ⟨k - 1, by omega⟩
    have hsh : shr .i64 x (wrap64 (8 * (i : Int))) = x / 256 ^ i := by
      unfold shr
      rw [w64 (by omega) (by omega), show min (8 * (i : Int)).toNat IntKind.i64.bits = 8 * i by simp only [IntKind.bits]; omega, Int.pow_mul]; rfl
    simp only [impl_PutFixed.l0]
    rw [if_pos (by omega), hsh, w64 (n := 8 * (i : Int)) (by omega) (by omega), if_pos (by omega), if_pos (by omega), w64 (n := (i : Int) + 1) (by omega) (by omega), show (i : Int) + 1 = ((i + 1 : Nat) : Int) by omega,
      ih k (i + 1) _ (by omega) (by omega) (by simp; omega)]
    simp [fbytes]
theorem spec_pf (x s : Int) (hx : -9223372036854775808 ≤ x ∧ x ≤ 9223372036854775807) (hs : s = 4 ∨ s = 8) : ∀ (d k i : Nat) (o : List Int) (y : Int), (i : Int) + d = s → d < k → o.length + d < 1000 → y = x % 18446744073709551616 / 256 ^ i → spec_PutFixed.l0 k s o y (i : Int) = some (o ++ fbytes x i d) := by
  intro d
  induction d with
  | zero =>
    intro k i o y h hk ho hy
    obtain ⟨k, rfl⟩ : ∃ m, k = m + 1 := ⟨k - 1, by omega⟩
    simp only [spec_PutFixed.l0]
    rw [if_neg (by omega)]; simp [fbytes]
  | succ d ih =>
    intro k i o y h hk ho hy
    obtain ⟨k, rfl⟩ : ∃ m, k = m + 1 := ⟨k - 1, by omega⟩
    have hp : (0 : Int) < 256 ^ i := Int.pow_pos (by decide)
    have hy0 : 0 ≤ y := by rw [hy]; exact Int.ediv_nonneg (by omega) (by omega)
    have hy1 : y < 18446744073709551616 := by
      have h1 : y ≤ x % 18446744073709551616 := by rw [hy]; exact Int.ediv_le_self _ (by omega)
      omega
    have e1 : IntKind.u64.wrap (Int.tdiv y 256) = y / 256 := by
      rw [Int.tdiv_eq_ediv_of_nonneg hy0, wu64_id (by omega) (by omega)]
    have e2 : Int.tmod y 256 % 256 = x / 256 ^ i % 256 := by
      rw [Int.tmod_eq_emod_of_nonneg hy0, hy]
      have hi : i < 8 := by omega
      have key : ∀ j : Fin 8, x % 18446744073709551616 / (256 ^ j.val) % 256 % 256 = x / 256 ^ j.val % 256 := by
        intro j
        match j with
        | ⟨0, _⟩ => show x % 18446744073709551616 / 1 % 256 % 256 = x / 1 % 256; omega
        | ⟨1, _⟩ => simp; omega
        | ⟨2, _⟩ => simp; omega
        | ⟨3, _⟩ => simp; omega
        | ⟨4, _⟩ => simp; omega
        | ⟨5, _⟩ => simp; omega
        | ⟨6, _⟩ => simp; omega
        | ⟨7, _⟩ => simp; omega
      exact key ⟨i, hi⟩
    have e3 : y / 256 = x % 18446744073709551616 / 256 ^ (i + 1) := by
      rw [hy, Int.pow_succ, Int.ediv_ediv_of_nonneg (by omega)]
    simp only [spec_PutFixed.l0]
    rw [if_pos (by omega), if_pos (by omega), e1, e2, w64 (n := (i : Int) + 1) (by omega) (by omega), show (i : Int) + 1 = ((i + 1 : Nat) : Int) by omega,
      ih k (i + 1) _ _ (by omega) (by omega) (by simp; omega) e3]
    simp [fbytes]
def pfixed (x s : Int) : List Int := if s = 4 ∨ s = 8 then fbytes x 0 s.toNat else []
theorem pf_impl (x s : Int) (k : Nat) (hk : 10 ≤ k) : impl_PutFixed.f k x s = some (pfixed x s) := by
  obtain ⟨k, rfl⟩ : ∃ m, k = m + 1 := ⟨k - 1, by omega⟩
  have go : (s = 4 ∨ s = 8) → impl_PutFixed.j0 (k + 1) x s false = some (pfixed x s) := by
    intro hs
    simp only [impl_PutFixed.j0]
    have := impl_pf x s hs s.toNat k 0 [] (by omega) (by omega) (by simp; omega)
    rw [if_neg Bool.false_ne_true]
    unfold pfixed
    rw [if_pos hs]
    simpa using this
  unfold impl_PutFixed.f
  by_cases h4 : s = 4
  · rw [if_pos h4, go (by omega)]
  · rw [if_neg h4]
    by_cases h8 : s = 8
    · rw [show (s != 8) = false by simp [h8], go (by omega)]
    · rw [show (s != 8) = true by simp [h8]]
      simp only [impl_PutFixed.j0, if_true]
      unfold pfixed
      rw [if_neg (by omega)]
theorem pf_spec (x s : Int) (hx : -9223372036854775808 ≤ x ∧ x ≤ 9223372036854775807) (k : Nat) (hk : 10 ≤ k) : spec_PutFixed.f k x s = some (pfixed x s) := by
  obtain ⟨k, rfl⟩ : ∃ m, k = m + 1 := ⟨k - 1, by omega⟩
  have go : (s = 4 ∨ s = 8) → spec_PutFixed.j0 (k + 1) x s [] false = some (pfixed x s) := by
    intro hs
    simp only [spec_PutFixed.j0]
    have := spec_pf x s hx hs s.toNat k 0 [] (IntKind.u64.wrap x) (by omega) (by omega) (by simp; omega) (by rw [wu64]; simp)
    rw [if_neg Bool.false_ne_true]
    unfold pfixed
    rw [if_pos hs]
    simpa using this
  unfold spec_PutFixed.f
  simp only [Option.bind_some]
  by_cases h4 : s = 4
  · rw [if_pos h4, go (by omega)]
  · rw [if_neg h4]
    by_cases h8 : s = 8
    · rw [show (s != 8) = false by simp [h8], go (by omega)]
    · rw [show (s != 8) = true by simp [h8]]
      simp only [spec_PutFixed.j0, if_true]
      unfold pfixed
      rw [if_neg (by omega)]
theorem FnExactPutFixed : laws_FnExactPutFixed.Pure := by
  intro x s hx hs
  refine ⟨100, ?_⟩
  have hl : (pfixed x s).length ≤ 10 := by
    unfold pfixed
    split
    · rw [fbytes_length]; omega
    · simp
  obtain ⟨b, h1, h2⟩ := markb (pfixed x s) (by omega) 100 (by omega)
  have h3 := eqb_self (pfixed x s) (by omega) 100 (by omega)
  unfold laws_FnExactPutFixed.f
  rw [pf_spec x s (wf_i64 hx) 100 (by omega), pf_impl x s 100 (by omega)]
  simp only [Option.bind_some, h1, h2, h3, if_true]
  rw [if_neg (by omega), if_neg (by omega)]

end Go.Proofs.Ytccobinebaomoaa.Pure
