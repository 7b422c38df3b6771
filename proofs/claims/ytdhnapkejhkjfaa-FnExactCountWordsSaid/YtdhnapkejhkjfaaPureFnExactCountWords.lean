/-
  The given law laws.FnExactCountWords returns true for every number: the program's CountWords gives what the reference's gives. No condition.
-/
import Derived.Test.YtdhnapkejhkjfaaPFnExactCountWordsx1
namespace Go.Proofs.Ytdhnapkejhkjfaa.Pure
open Go.RowKit Go.Proofs.Ytdhnapkejhkjfaa.PFnExactCountWords Go.Proofs.YtdhnapkejhkjfaaW.PrintWords Go.Proofs.YtdhnapkejhkjfaaW.PrintLast

theorem FnExactCountWords : laws_FnExactCountWords.Pure := by
  intro n _
  by_cases h : 0 ≤ n ∧ n ≤ 6
  · refine ⟨10, ?_⟩
    have h7 : n = 0 ∨ n = 1 ∨ n = 2 ∨ n = 3 ∨ n = 4 ∨ n = 5 ∨ n = 6 := by omega
    rcases h7 with rfl | rfl | rfl | rfl | rfl | rfl | rfl <;> decide +kernel
  · refine ⟨1, ?_⟩
    have hs : spec_l01In.f n 0 6 = some false := by
      unfold spec_l01In.f
      by_cases h0 : n ≥ 0
      · rw [if_pos h0, decide_eq_false (by omega)]
      · rw [if_neg h0]
    have hi : impl_in.f n 0 6 = some false := by
      unfold impl_in.f
      by_cases h0 : n ≥ 0
      · rw [if_pos h0, decide_eq_false (by omega)]
      · rw [if_neg h0]
    unfold laws_FnExactCountWords.f spec_CountWords.f impl_CountWords.f
    rw [hs, hi]
    rfl

end Go.Proofs.Ytdhnapkejhkjfaa.Pure
