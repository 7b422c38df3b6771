/-
  Plain lemmas on walks along a road, marking what is passed. No program in sight.
-/
import Derived.Test.YtckmncebedhgeaaPlainA
namespace Go.Proofs.Ytckmncebedhgeaa.Plain
open Go.RowKit Go.Maps Go.Proofs.YtckmncebedhgeaaW.PrintWords Go.Proofs.YtckmncebedhgeaaW.PrintLast Go.Proofs.YtckmncebedhgeaaW.PrintMore
set_option linter.unusedVariables false
set_option linter.unusedSimpArgs false
/-- A walk along a road, which marks each place that it comes to, and another one, till it comes to a marked one. -/
def walkB (al nx : Nat → Nat) : Nat → List Bool → Nat → List Bool
  | 0, s, _ => s
  | d + 1, s, k => if s.getD k true = true then s else walkB al nx d ((s.set k true).set (al k) true) (nx k)
/-- How many walks are begun. -/
def cycB (al nx : Nat → Nat) : Nat → Nat → List Bool → Nat → Nat
  | 0, _, _, m => m
  | d + 1, i, s, m => if s.getD i true = true then cycB al nx d (i + 1) s m else cycB al nx d (i + 1) (walkB al nx (s.count false + 1) s i) (m + 1)
theorem walkB_length (al nx : Nat → Nat) : ∀ (d : Nat) (s : List Bool) (k : Nat), (walkB al nx d s k).length = s.length
  | 0, _, _ => rfl
  | d + 1, s, k => by
    unfold walkB
    split
    · rfl
    · rw [walkB_length]; simp
theorem count_set_le : ∀ (s : List Bool) (k : Nat), (s.set k true).count false ≤ s.count false
  | [], _ => by simp
  | b :: s, 0 => by cases b <;> simp
  | b :: s, k + 1 => by
    have := count_set_le s k
    cases b <;> simp <;> omega
theorem count_set_lt : ∀ (s : List Bool) (k : Nat), s.getD k true = false → (s.set k true).count false < s.count false
  | [], _, h => by simp at h
  | b :: s, 0, h => by
    have : b = false := by simpa using h
    subst this
    simp
  | b :: s, k + 1, h => by
    have := count_set_lt s k (by simpa using h)
    cases b <;> simp <;> omega
theorem count_sets_lt (s : List Bool) (k j : Nat) (h : s.getD k true = false) : ((s.set k true).set j true).count false < s.count false :=
  Nat.lt_of_le_of_lt (count_set_le _ _) (count_set_lt s k h)
theorem cycB_le (al nx : Nat → Nat) : ∀ (d i : Nat) (s : List Bool) (m : Nat), cycB al nx d i s m ≤ m + d
  | 0, _, _, _ => Nat.le_refl _
  | d + 1, i, s, m => by
    unfold cycB
    split
    · exact Nat.le_trans (cycB_le al nx d _ _ _) (by omega)
    · exact Nat.le_trans (cycB_le al nx d _ _ _) (by omega)
end Go.Proofs.Ytckmncebedhgeaa.Plain
