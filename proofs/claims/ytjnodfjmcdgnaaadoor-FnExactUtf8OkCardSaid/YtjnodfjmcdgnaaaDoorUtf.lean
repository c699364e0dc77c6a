/- The plain law under Utf8Ok: a text in which no rune is U+FFFD but where its own three bytes stand is one that the decoder passes whole. Conditions: none. -/
import Derived.Lib.ValidLaws
import Derived.Laws.RangeAny
namespace Go.Proofs.YtjnodfjmcdgnaaaDoor.Utf
open Go Go.Lib

/-- The three bytes of U+FFFD stand at a place. -/
def isFFFD (s : ByteArray) (pos : Nat) : Prop := pos + 2 < s.size ∧ (s.get! pos).toNat = 239 ∧ (s.get! (pos + 1)).toNat = 191 ∧ (s.get! (pos + 2)).toNat = 189
instance (s : ByteArray) (pos : Nat) : Decidable (isFFFD s pos) := by unfold isFFFD; infer_instance
theorem fffd_iff (n b0 b1 b2 b3 : Nat) (h0 : b0 < 256) (_ : b1 < 256) (_ : b2 < 256) : (decodeN n b0 b1 b2 b3).1 = 65533 → ((decodeN n b0 b1 b2 b3).2 = 1 ↔ ¬ (2 < n ∧ b0 = 239 ∧ b1 = 191 ∧ b2 = 189)) := by
  unfold decodeN
  repeat' split
  all_goals intro h
  all_goals simp only [] at h ⊢
  all_goals refine ⟨fun g => ?_, fun g => ?_⟩
  all_goals first | omega | (rintro ⟨g1, g2, g3, g4⟩; omega)
theorem fffd (s : ByteArray) (pos : Nat) (h : (Utf8.decode s pos).1 = 65533) : (Utf8.decode s pos).2 = 1 ↔ ¬ isFFFD s pos := by
  rw [decode_at] at h ⊢
  have := fffd_iff _ _ _ _ _ (UInt8.toNat_lt (s.get! pos)) (UInt8.toNat_lt (s.get! (pos + 1))) (UInt8.toNat_lt (s.get! (pos + 2))) h
  rw [this]
  unfold isFFFD
  have e : (2 < s.size - pos) ↔ (pos + 2 < s.size) := by omega
  rw [e]
/-- What the reference's loop tells from a place on. -/
def okFrom (s : ByteArray) : Nat → Nat → Bool
  | 0, _ => true
  | f + 1, pos => if pos < s.size then (if (Utf8.decode s pos).1 = 65533 ∧ ¬ isFFFD s pos then false else okFrom s f (pos + (Utf8.decode s pos).2)) else true
theorem okFrom_end (s : ByteArray) (f pos : Nat) (h : ¬ pos < s.size) : okFrom s f pos = true := by
  cases f with
  | zero => rfl
  | succ f => unfold okFrom; rw [if_neg h]
theorem okFrom_valid (s : ByteArray) : ∀ (f pos : Nat), s.size ≤ pos + f → okFrom s f pos = validD (s.data.toList.drop pos) := by
  have hl : s.data.toList.length = s.size := (size_eq s).symm
  intro f
  induction f with
  | zero =>
    intro pos h
    rw [List.drop_eq_nil_of_le (by omega)]; rfl
  | succ f ih =>
    intro pos h
    unfold okFrom
    by_cases hp : pos < s.size
    · have hne : s.data.toList.drop pos ≠ [] := by
        intro he
        have := congrArg List.length he
        rw [List.length_drop, List.length_nil] at this
        omega
      have hw := width_pos s pos
      rw [if_pos hp, validD_step _ hne, decodeL_drop, List.drop_drop, ih (pos + (Utf8.decode s pos).2) (by omega)]
      by_cases h5 : (Utf8.decode s pos).1 = 65533
      · have hf := fffd s pos h5
        by_cases h1 : (Utf8.decode s pos).2 = 1
        · rw [if_pos ⟨h5, hf.mp h1⟩, if_pos ⟨h5, h1⟩]
        · rw [if_neg (fun e => h1 (hf.mpr e.2)), if_neg (fun e => h1 e.2)]
      · rw [if_neg (fun e => h5 e.1), if_neg (fun e => h5 e.1)]
    · rw [if_neg hp, List.drop_eq_nil_of_le (by omega)]; rfl
end Go.Proofs.YtjnodfjmcdgnaaaDoor.Utf
