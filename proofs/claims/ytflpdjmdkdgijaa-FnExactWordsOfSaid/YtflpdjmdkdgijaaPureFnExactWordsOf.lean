/-
  The given law laws.FnExactWordsOf returns true for every number: the program's WordsOf answers as the reference's. No condition.
-/
import Derived.Test.YtflpdjmdkdgijaaEvE
import Derived.Test.YtflpdjmdkdgijaaEvM
import Derived.Test.YtflpdjmdkdgijaaEvFl
import Derived.Test.YtflpdjmdkdgijaaGlWordsOf
namespace Go.Proofs.Ytflpdjmdkdgijaa.Pure
open Go.RowKit Go.Proofs.Ytflpdjmdkdgijaa.G Go.Proofs.Ytflpdjmdkdgijaa.Plain Go.Proofs.YtflpdjmdkdgijaaW.PrintWords Go.Proofs.YtflpdjmdkdgijaaW.PrintLast
set_option linter.unusedVariables false
/-- What WordsOf answers. -/
def WordsOfR (a : Int) : List (List Int) × Int := if 0 ≤ a ∧ a ≤ 5 then (wordsF a.toNat, 0) else ([], 2)
theorem ev_spec_WordsOf (a : Int) : Ev (fun k => spec_WordsOf.f k a) (WordsOfR a) := by
  unfold spec_WordsOf.f spec_l01In.f WordsOfR
  by_cases c : 0 ≤ a ∧ a ≤ 5
  · rw [if_pos c, if_pos c.1]
    have h := ev_all a.toNat (by omega)
    rw [Int.toNat_of_nonneg c.1] at h
    exact Ev.bind (Ev.const rfl) (Ev.ite_pos (decide_eq_true c.2) (Ev.bind h (Ev.now _)))
  · rw [if_neg c]
    by_cases d : a ≥ 0
    · rw [if_pos d]
      exact Ev.bind (Ev.const rfl) (Ev.ite_neg (by simp; omega) (Ev.now _))
    · rw [if_neg d]
      exact Ev.bind (Ev.const rfl) (Ev.ite_neg (by simp) (Ev.now _))
theorem ev_impl_WordsOf (a : Int) : Ev (fun _ => impl_WordsOf.f a) (WordsOfR a) := by
  refine Ev.const ?_
  unfold impl_WordsOf.f impl_in.f WordsOfR impl_wordsOf.f
  by_cases c : 0 ≤ a ∧ a ≤ 5
  · rw [if_pos c, if_pos c, if_pos c.1, Option.bind_some, if_pos (decide_eq_true c.2), Option.bind_some]
  · simp only [if_neg c]
    by_cases d : a ≥ 0
    · rw [if_pos d, Option.bind_some, if_neg (by simp; omega)]
    · rw [if_neg d, Option.bind_some, if_neg (by simp)]
theorem WordsOfR_le (a : Int) : (WordsOfR a).1.length ≤ 1048 ∧ ∀ r ∈ (WordsOfR a).1, r.length ≤ 12 := by
  unfold WordsOfR
  by_cases c : 0 ≤ a ∧ a ≤ 5
  · rw [if_pos c]
    have h1 := wordsF_le a.toNat (by omega)
    exact ⟨by simp only; omega, fun r hr => by have := words_len a.toNat (by omega) r hr; omega⟩
  · rw [if_neg c]
    exact ⟨by simp, fun r hr => by simp at hr⟩
theorem FnExactWordsOf : laws_FnExactWordsOf.Pure := by
  intro a0 hw
  obtain ⟨b1, b2⟩ := WordsOfR_le a0
  have b3 := total_le b2
  obtain ⟨K1, h1⟩ := ev_spec_WordsOf a0
  obtain ⟨K2, h2⟩ := ev_impl_WordsOf a0
  obtain ⟨K3, h3⟩ := ev_eqSS_same (WordsOfR a0).1 (by omega) (fun r hr => by have := b2 r hr; omega)
  obtain ⟨K4, h4⟩ := ev_markSS (WordsOfR a0).1 1 (by omega) (by omega) (by omega)
  obtain ⟨K5, h5⟩ := ev_heldSS (WordsOfR a0).1 1 (by omega) (by omega) (by omega)
  refine ⟨max K1 (max K2 (max K3 (max K4 K5))), _, _, _, _, h1 _ (by omega), h2 K2 (Nat.le_refl _), h3 _ (by omega), h4 _ (by omega), h5 _ (by omega), by omega⟩
end Go.Proofs.Ytflpdjmdkdgijaa.Pure
