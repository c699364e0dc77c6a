/- ZigZag: for every number of 64 bits both ways of folding the sign give the same number. No condition. -/
import Derived.Test.YtccobinebaomoaaPFnExactZigZagx1
import Derived.Test.YtccobinebaomoaaLib
set_option linter.unusedSimpArgs false
set_option linter.unusedVariables false
namespace Go.Proofs.Ytccobinebaomoaa.Pure
open Go Go.RowKit Go.Proofs.Ytccobinebaomoaa.PFnExactZigZag Go.Proofs.YtccobinebaomoaaW.PrintWords Go.Proofs.YtccobinebaomoaaW.PrintLast Go.Proofs.YtccobinebaomoaaW.PrintMore Go.Proofs.Ytccobinebaomoaa.Lib

theorem FnExactZigZag : laws_FnExactZigZag.Pure := by
  intro a ha
  have hr := wf_i64 ha
  have hw := w64_range (a * 2)
  have key : impl_ZigZag.f a = spec_ZigZag.f a := by
    unfold impl_ZigZag.f spec_ZigZag.f
    by_cases h : a < 0
    · rw [if_pos h, show a / 9223372036854775808 = -1 by omega, xor_ones_i64 _ hw.1 hw.2]
      simp only [wu64, w64 (n := a + 1) (by omega) (by omega), w64 (n := -(a + 1)) (by omega) (by omega)]
      congr 1
      unfold wrap64
      omega
    · rw [if_neg h, show a / 9223372036854775808 = 0 by omega, xor_zero_i64 _ hw.1 hw.2]
      simp only [wu64]
      congr 1
      unfold wrap64
      omega
  unfold laws_FnExactZigZag.f
  rw [key]
  unfold spec_ZigZag.f
  split <;> simp

end Go.Proofs.Ytccobinebaomoaa.Pure
