/- UnZigZag: for every number of 64 bits both ways of unfolding the sign give the same number. No condition. -/
import Derived.Test.YtccobinebaomoaaPFnExactUnZigZagx1
import Derived.Test.YtccobinebaomoaaLib
set_option linter.unusedSimpArgs false
set_option linter.unusedVariables false
namespace Go.Proofs.Ytccobinebaomoaa.Pure
open Go Go.RowKit Go.Proofs.Ytccobinebaomoaa.PFnExactUnZigZag Go.Proofs.YtccobinebaomoaaW.PrintWords Go.Proofs.YtccobinebaomoaaW.PrintLast Go.Proofs.YtccobinebaomoaaW.PrintMore Go.Proofs.Ytccobinebaomoaa.Lib

theorem FnExactUnZigZag : laws_FnExactUnZigZag.Pure := by
  intro a ha
  have hr := wf_i64 ha
  have key : impl_UnZigZag.f a = spec_UnZigZag.f a := by
    unfold impl_UnZigZag.f spec_UnZigZag.f
    have h1 : Go.bits .and .i64 a 1 = a % 2 := and_i64 1 (by decide) a
    have hm : Int.tmod (IntKind.u64.wrap a) 2 = a % 2 := by
      rw [wu64, Int.tmod_eq_emod_of_nonneg (by omega)]; omega
    have hd : Int.tdiv (IntKind.u64.wrap a) 2 = (a % 18446744073709551616) / 2 := by
      rw [wu64, Int.tdiv_eq_ediv_of_nonneg (by omega)]
    rw [h1, hm, hd, wu64, wu64]
    by_cases h : a % 2 = 1
    · rw [if_pos h, h, show wrap64 (-1) = -1 by unfold wrap64; rfl, xor_ones_i64 _ (w64_range _).1 (w64_range _).2]
      congr 1
      unfold wrap64
      omega
    · rw [if_neg h, show a % 2 = 0 by omega, show wrap64 (-0) = 0 by unfold wrap64; rfl, xor_zero_i64 _ (w64_range _).1 (w64_range _).2]
      congr 1
      unfold wrap64
      omega
  unfold laws_FnExactUnZigZag.f
  rw [key]
  unfold spec_UnZigZag.f
  split <;> simp

end Go.Proofs.Ytccobinebaomoaa.Pure
