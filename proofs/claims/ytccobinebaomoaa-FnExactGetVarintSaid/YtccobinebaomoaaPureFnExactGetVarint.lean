/- GetVarint: for all bytes and places both read the same number, place and code, and nothing is written into the bytes. No condition. -/
import Derived.Test.YtccobinebaomoaaPFnExactGetVarintx2
import Derived.Test.YtccobinebaomoaaLib
set_option linter.unusedSimpArgs false
set_option linter.unusedVariables false
namespace Go.Proofs.Ytccobinebaomoaa.Pure
open Go Go.RowKit Go.Proofs.Ytccobinebaomoaa.PFnExactGetVarint Go.Proofs.YtccobinebaomoaaW.PrintWords Go.Proofs.YtccobinebaomoaaW.PrintLast Go.Proofs.YtccobinebaomoaaW.PrintMore Go.Proofs.Ytccobinebaomoaa.Lib

theorem eqb_from (a : List Int) (ha : a.length ≤ 140737488355328) : ∀ (d k : Nat) (i : Int), 0 ≤ i → i ≤ a.length → a.length - i = d → d < k → laws_eqByteS.l0 k a a i = some true := by
  intro d
  induction d with
  | zero =>
    intro k i h0 h1 hd hk
    obtain ⟨k, rfl⟩ : ∃ m, k = m + 1 := ⟨k - 1, by omega⟩
    simp only [laws_eqByteS.l0]; rw [if_neg (by omega)]
  | succ d ih =>
    intro k i h0 h1 hd hk
    obtain ⟨k, rfl⟩ : ∃ m, k = m + 1 := ⟨k - 1, by omega⟩
    simp only [laws_eqByteS.l0]
    rw [if_pos (by omega), if_pos h0, if_pos (by omega), if_true, w64 (n := i + 1) (by omega) (by omega)]
    exact ih k (i + 1) (by omega) (by omega) (by omega) (by omega)
theorem eqb_self (a : List Int) (ha : a.length ≤ 140737488355328) (k : Nat) (hk : a.length < k) : laws_eqByteS.f k a a = some true := by
  unfold laws_eqByteS.f
  rw [if_pos rfl]
  exact eqb_from a ha a.length k 0 (by omega) (by omega) (by omega) hk

theorem tob_from (a : List Int) (ha : a.length ≤ 140737488355328) : ∀ (d k : Nat) (i : Nat) (o : List Int), i ≤ a.length → a.length - i = d → o.length = a.length → (∀ j, j < i → o[j]? = a[j]?) → d < k → laws_toByteS.l0 k a o (i : Int) = some a := by
  intro d
  induction d with
  | zero =>
    intro k i o h1 hd ho hj hk
    obtain ⟨k, rfl⟩ : ∃ m, k = m + 1 := ⟨k - 1, by omega⟩
    simp only [laws_toByteS.l0]; rw [if_neg (by omega)]
    refine congrArg some (List.ext_getElem? fun j => ?_)
    by_cases hji : j < i
    · exact hj j hji
    · rw [List.getElem?_eq_none (by omega), List.getElem?_eq_none (by omega)]
  | succ d ih =>
    intro k i o h1 hd ho hj hk
    obtain ⟨k, rfl⟩ : ∃ m, k = m + 1 := ⟨k - 1, by omega⟩
    simp only [laws_toByteS.l0]
    rw [if_pos (by omega), if_pos (by omega), if_pos (by omega), w64 (n := (i : Int) + 1) (by omega) (by omega), show (i : Int) + 1 = ((i + 1 : Nat) : Int) by omega]
    refine ih k (i + 1) _ (by omega) (by omega) (by simp [ho]) ?_ (by omega)
    intro j hji
    rw [show ((i : Int)).toNat = i by omega, rd_nat a i (by omega)]
    by_cases e : j = i
    · subst e
      rw [List.getElem?_set_self (by omega), List.getElem?_eq_getElem (by omega)]
    · rw [List.getElem?_set_ne (by omega)]
      exact hj j (by omega)
theorem tob_same (a : List Int) (ha : a.length ≤ 140737488355328) (k : Nat) (hk : a.length < k) : laws_toByteS.f k a = some a := by
  unfold laws_toByteS.f
  rw [if_pos (by omega), if_pos (by omega)]
  exact tob_from a ha a.length k 0 _ (by omega) (by omega) (by simp) (by intro j h; omega) hk

theorem shl7 (i : Nat) (hi : i ≤ 9) (c : Int) (h0 : 0 ≤ c) (h1 : c < 128) (h9 : i = 9 → c ≤ 1) : shl .u64 (IntKind.u64.wrap c) (wrap64 (7 * (i : Int))) = c * 2 ^ (7 * i) ∧ c * 2 ^ (7 * i) < 18446744073709551616 ∧ (c * 2 ^ (7 * i)) % 2 ^ (7 * i) = 0 := by
  have hlt : c * 2 ^ (7 * i) < 18446744073709551616 := by
    by_cases e : i = 9
    · subst e; have := h9 rfl; omega
    · have h2 : (2 : Int) ^ (7 * i) ≤ 2 ^ 56 := pow2_le (by omega)
      have : c * 2 ^ (7 * i) ≤ 127 * 2 ^ 56 := Int.mul_le_mul (by omega) h2 (by have : (0:Int) < 2 ^ (7 * i) := Int.pow_pos (by decide); omega) (by decide)
      omega
  have hp : (0 : Int) < 2 ^ (7 * i) := Int.pow_pos (by decide)
  have hnn : 0 ≤ c * 2 ^ (7 * i) := Int.mul_nonneg h0 (by omega)
  refine ⟨?_, hlt, Int.mul_emod_left _ _⟩
  unfold shl
  rw [w64 (by omega) (by omega), show min (7 * (i : Int)).toNat IntKind.u64.bits = 7 * i by simp only [IntKind.bits]; omega, wu64_id h0 (by omega), wu64_id hnn hlt]
/-- What a reader's accumulator comes to. -/
theorem gv_acc (i : Nat) (hi : i ≤ 9) (acc c : Int) (h0 : 0 ≤ acc) (h1 : acc < 2 ^ (7 * i)) (hc0 : 0 ≤ c) (hc : c < 256) (h9 : i = 9 → c % 128 ≤ 1) :
    Go.bits .or .u64 acc (shl .u64 (IntKind.u64.wrap (Go.bits .and .u8 c 127)) (wrap64 (7 * (i : Int)))) = acc + (c % 128) * 2 ^ (7 * i)
    ∧ IntKind.u64.wrap (acc + (shl .u64 (IntKind.u64.wrap (Int.tmod c 128)) (IntKind.u64.wrap (wrap64 (7 * (i : Int)))))) = acc + (c % 128) * 2 ^ (7 * i)
    ∧ acc + (c % 128) * 2 ^ (7 * i) < 2 ^ (7 * (i + 1)) ∧ acc + (c % 128) * 2 ^ (7 * i) < 18446744073709551616 := by
  obtain ⟨s1, s2, s3⟩ := shl7 i (by omega) (c % 128) (by omega) (by omega) h9
  have a1 : Go.bits .and .u8 c 127 = c % 128 := and_u8 7 (by decide) c hc0 hc
  have a2 : Int.tmod c 128 = c % 128 := Int.tmod_eq_emod_of_nonneg hc0
  have w0 : wrap64 (7 * (i : Int)) = 7 * (i : Int) := w64 (by omega) (by omega)
  have a3 : IntKind.u64.wrap (wrap64 (7 * (i : Int))) = wrap64 (7 * (i : Int)) := by rw [w0]; exact wu64_id (by omega) (by omega)
  have hp : (0 : Int) < 2 ^ (7 * i) := Int.pow_pos (by decide)
  have hnn : 0 ≤ (c % 128) * 2 ^ (7 * i) := Int.mul_nonneg (by omega) (by omega)
  have e1 : (2 : Int) ^ (7 * (i + 1)) = 128 * 2 ^ (7 * i) := by
    rw [show 7 * (i + 1) = 7 * i + 7 by omega, Int.pow_add]; omega
  have e2 : (c % 128) * 2 ^ (7 * i) ≤ 127 * 2 ^ (7 * i) := Int.mul_le_mul_of_nonneg_right (by omega) (by omega)
  have hsum : acc + (c % 128) * 2 ^ (7 * i) < 18446744073709551616 := by
    by_cases e : i = 9
    · subst e; have := h9 rfl; omega
    · have h2' : (2 : Int) ^ (7 * i) ≤ 2 ^ 56 := pow2_le (by omega)
      omega
  have hacc : acc < 18446744073709551616 := by omega
  refine ⟨?_, ?_, by omega, hsum⟩
  · rw [a1, s1, or_u64 (7 * i) acc _ h0 h1 hnn s2 s3 hacc]
  · rw [a2, a3, s1, wu64_id (n := acc + _) (by omega) hsum]

/-- Both readers go in step. -/
theorem gv_lock (l : List Int) (at_ : Int) (hb : ∀ x ∈ l, (Lit.int .u8 x).wf = true) (k : Nat) :
    (∀ (i : Nat) (acc : Int), i ≤ 10 → 0 ≤ acc → acc < 2 ^ (7 * i) → impl_GetVarint.l0 k l at_ acc (i : Int) = spec_GetVarint.l0 k l at_ acc (i : Int)) ∧
    (∀ (i : Nat) (acc c : Int) (b : Bool), i ≤ 9 → 0 ≤ acc → acc < 2 ^ (7 * i) → 0 ≤ c → c < 256 → (i = 9 → b = false → c ≤ 1) → impl_GetVarint.j1 k l at_ acc (i : Int) c b = spec_GetVarint.j1 k l at_ acc (i : Int) c b) := by
  induction k with
  | zero => exact ⟨fun _ _ _ _ _ => rfl, fun _ _ _ _ _ _ _ _ _ _ => rfl⟩
  | succ k ih =>
    obtain ⟨ihl, ihj⟩ := ih
    constructor
    · intro i acc hi h0 h1
      simp only [impl_GetVarint.l0, spec_GetVarint.l0]
      have hr := rd_byte hb (wrap64 (at_ + (i : Int)))
      by_cases hlt : (i : Int) < 10
      · by_cases e9 : (i : Int) = 9
        · rw [if_pos hlt, if_pos hlt, if_pos e9, if_pos e9, ihj i acc _ _ (by omega) h0 h1 hr.1 hr.2 (fun _ hd => by simpa using hd)]
        · rw [if_pos hlt, if_pos hlt, if_neg e9, if_neg e9, ihj i acc _ _ (by omega) h0 h1 hr.1 hr.2 (fun e => absurd (by omega) e9)]
      · rw [if_neg hlt, if_neg hlt]
    · intro i acc c b hi h0 h1 hc0 hc hbb
      simp only [impl_GetVarint.j1, spec_GetVarint.j1]
      cases b with
      | true => rw [if_pos rfl, if_pos rfl]
      | false =>
        have h9 : i = 9 → c % 128 ≤ 1 := fun e => by have := hbb e rfl; omega
        obtain ⟨q1, q2, q3, q4⟩ := gv_acc i hi acc c h0 h1 hc0 hc h9
        have w0 : wrap64 (7 * (i : Int)) = 7 * (i : Int) := w64 (by omega) (by omega)
        have hp : (0 : Int) < 2 ^ (7 * i) := Int.pow_pos (by decide)
        have hnn : 0 ≤ (c % 128) * 2 ^ (7 * i) := Int.mul_nonneg (by omega) (by omega)
        have g1 : 0 ≤ wrap64 (7 * (i : Int)) := by rw [w0]; omega
        have g2 : 0 ≤ IntKind.u64.wrap (wrap64 (7 * (i : Int))) := by rw [wu64]; omega
        rw [q1, q2, if_neg Bool.false_ne_true, if_neg Bool.false_ne_true, if_pos g1, if_pos g2]
        by_cases hlt : c < 128
        · rw [if_pos hlt, if_pos hlt]
        · rw [if_neg hlt, if_neg hlt, w64 (n := (i : Int) + 1) (by omega) (by omega), show (i : Int) + 1 = ((i + 1 : Nat) : Int) by omega]
          exact ihl (i + 1) _ (by omega) (by omega) q3
theorem gv_ends (l : List Int) (at_ : Int) (ha : 0 ≤ at_) (hl : at_ ≤ l.length) (hlen : l.length ≤ 140737488355328) : ∀ (d k i : Nat) (acc : Int), i + d = 10 → 2 * d + 1 ≤ k → ∃ r, spec_GetVarint.l0 k l at_ acc (i : Int) = some r := by
  intro d
  induction d with
  | zero =>
    intro k i acc h hk
    obtain ⟨k, rfl⟩ : ∃ m, k = m + 1 := ⟨k - 1, by omega⟩
    exact ⟨_, by simp only [spec_GetVarint.l0]; rw [if_neg (by omega)]⟩
  | succ d ih =>
    intro k i acc h hk
    obtain ⟨k, rfl⟩ : ∃ m, k = m + 2 := ⟨k - 2, by omega⟩
    simp only [spec_GetVarint.l0]
    rw [if_pos (by omega), w64 (n := at_ + (i : Int)) (by omega) (by omega)]
    by_cases hge : at_ + (i : Int) ≥ (l.length : Int)
    · rw [if_pos hge]; exact ⟨_, rfl⟩
    · rw [if_neg hge, if_pos (by omega), if_pos (by omega)]
      have key : ∀ b c, ∃ r, spec_GetVarint.j1 (k + 1) l at_ acc (i : Int) c b = some r := by
        intro b c
        simp only [spec_GetVarint.j1]
        cases b with
        | true => exact ⟨_, rfl⟩
        | false =>
          simp only [Bool.false_eq_true, if_false]
          rw [if_pos (by rw [wu64]; omega)]
          split
          · exact ⟨_, rfl⟩
          · rw [w64 (n := (i : Int) + 1) (by omega) (by omega), show (i : Int) + 1 = ((i + 1 : Nat) : Int) by omega]
            exact ih k (i + 1) _ (by omega) (by omega)
      split <;> exact key _ _
/-- Both readers of a varint answer the same. -/
theorem gv_same (l : List Int) (a : Int) (hb : ∀ x ∈ l, (Lit.int .u8 x).wf = true) (hlen : l.length ≤ 140737488355328) (k : Nat) (hk : 21 ≤ k) : ∃ r, spec_GetVarint.f k l a = some r ∧ impl_GetVarint.f k l a = some r := by
  unfold spec_GetVarint.f impl_GetVarint.f spec_l1In.f impl_within.f
  by_cases h0 : a ≥ 0
  · rw [if_pos h0]
    by_cases h1 : a ≤ (l.length : Int)
    · obtain ⟨r, hr⟩ := gv_ends l a h0 h1 hlen 10 k 0 0 (by omega) (by omega)
      have hs := (gv_lock l a hb k).1 0 0 (by omega) (by omega) (by decide)
      refine ⟨r, ?_, ?_⟩
      · simp only [Option.bind_some, decide_eq_true h1, if_true]; exact hr
      · simp only [Option.bind_some, decide_eq_true h1, if_true]; exact hs.trans hr
    · exact ⟨(0, 0, 1), by simp [h1], by simp [h1]⟩
  · rw [if_neg h0]
    exact ⟨(0, 0, 1), by simp, by simp⟩


theorem FnExactGetVarint : laws_FnExactGetVarint.Pure := by
  intro l a hl hl2 hb ha
  refine ⟨1048600, ?_⟩
  unfold laws_FnExactGetVarint.f
  by_cases hbig : (l.length : Int) > 1048576
  · rw [if_pos hbig]
  · rw [if_neg hbig]
    have ht := tob_same l (by omega) 1048600 (by omega)
    have ht' := tob_same l (by omega) 1048599 (by omega)
    have he := eqb_self l (by omega) 1048599 (by omega)
    obtain ⟨r, hs, hi⟩ := gv_same l a hb (by omega) 1048600 (by omega)
    simp only [ht, hs, hi, Option.bind_some, if_true]
    rw [show laws_FnExactGetVarint.j0 1048600 l l (r.2.2 != r.2.2) = laws_FnExactGetVarint.j0 (1048599 + 1) l l (r.2.2 != r.2.2) from rfl]
    simp only [laws_FnExactGetVarint.j0, bne_self_eq_false, Bool.false_eq_true, if_false, ht', he, Option.bind_some, if_true]

end Go.Proofs.Ytccobinebaomoaa.Pure
