/- KindOf: for every text both walk the same list of names and tell the same number. No condition. -/
import Derived.Test.YtccobinebaomoaaPFnExactKindOfx1
import Derived.Test.YtccobinebaomoaaLib
set_option linter.unusedSimpArgs false
set_option linter.unusedVariables false
namespace Go.Proofs.Ytccobinebaomoaa.Pure
open Go Go.RowKit Go.Proofs.Ytccobinebaomoaa.PFnExactKindOf Go.Proofs.YtccobinebaomoaaW.PrintWords Go.Proofs.YtccobinebaomoaaW.PrintLast Go.Proofs.YtccobinebaomoaaW.PrintMore Go.Proofs.Ytccobinebaomoaa.Lib

theorem kind_lock (x : ByteArray) (l : List ByteArray) (hl : l.length < 100) : ∀ (k : Nat) (i : Int), 0 ≤ i → i ≤ l.length →
    spec_KindOf.l0 k x l i = (slices_Index_string_string.l0 k l x (l.length : Int) i).map fun j => wrap64 (j + 1)
  | 0, _, _, _ => rfl
  | k + 1, i, h0, h1 => by
    simp only [spec_KindOf.l0, slices_Index_string_string.l0]
    by_cases h : i < (l.length : Int)
    · rw [if_pos h, if_pos h, if_pos h0, if_pos h0, if_pos h]
      by_cases e : x.toList = (rdOf ByteArray.empty l i).toList
      · rw [if_pos e, if_pos e.symm]; rfl
      · rw [if_neg e, if_neg (fun h => e h.symm), w64 (n := i + 1) (by omega) (by omega)]
        exact kind_lock x l hl k (i + 1) (by omega) (by omega)
    · rw [if_neg h, if_neg h]; simp [wrap64]
theorem index_ends (x : ByteArray) (l : List ByteArray) (hl : l.length < 100) : ∀ (d k : Nat) (i : Int), 0 ≤ i → i ≤ l.length → l.length - i = d → d < k →
    ∃ r, slices_Index_string_string.l0 k l x (l.length : Int) i = some r := by
  intro d
  induction d with
  | zero =>
    intro k i h0 h1 hd hk
    obtain ⟨k, rfl⟩ : ∃ m, k = m + 1 := ⟨k - 1, by omega⟩
    exact ⟨_, by simp only [slices_Index_string_string.l0]; rw [if_neg (by omega)]⟩
  | succ d ih =>
    intro k i h0 h1 hd hk
    obtain ⟨k, rfl⟩ : ∃ m, k = m + 1 := ⟨k - 1, by omega⟩
    simp only [slices_Index_string_string.l0]
    rw [if_pos (by omega), if_pos h0, if_pos (by omega)]
    split
    · exact ⟨_, rfl⟩
    · rw [w64 (n := i + 1) (by omega) (by omega)]
      exact ih k (i + 1) (by omega) (by omega) (by omega) (by omega)

theorem FnExactKindOf : laws_FnExactKindOf.Pure := by
  intro a ha
  refine ⟨100, ?_⟩
  unfold laws_FnExactKindOf.f
  split
  · rfl
  · obtain ⟨l, hl⟩ : ∃ l, spec_l4Scalars.f = some l := ⟨_, rfl⟩
    have hl2 : impl_kindNames.f = some l := by rw [← hl]; rfl
    have hlen : l.length = 15 := by
      have : (spec_l4Scalars.f).map List.length = some 15 := rfl
      rw [hl] at this; simpa using this
    obtain ⟨r, hr⟩ := index_ends a l (by omega) 15 100 0 (by omega) (by omega) (by omega) (by omega)
    have hs := kind_lock a l (by omega) 100 0 (by omega) (by omega)
    unfold spec_KindOf.f impl_KindOf.f slices_Index_string_string.f
    rw [hl, hl2]
    simp only [Option.bind_some, hs, hr, Option.map_some, if_true]

end Go.Proofs.Ytccobinebaomoaa.Pure
