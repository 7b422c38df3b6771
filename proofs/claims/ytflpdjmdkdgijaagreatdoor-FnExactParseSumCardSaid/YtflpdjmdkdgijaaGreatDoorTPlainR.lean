/-
  Plain lemmas on rotations and the order of words. No program in sight.
-/
import Derived.Test.YtflpdjmdkdgijaaGreatDoorTPlainB
namespace Go.Proofs.YtflpdjmdkdgijaaGreatDoor.Plain
open Go.RowKit Go.Maps Go.Proofs.YtflpdjmdkdgijaaGreatDoorW.PrintWords Go.Proofs.YtflpdjmdkdgijaaGreatDoorW.PrintLast Go.Proofs.YtflpdjmdkdgijaaGreatDoorW.PrintMore
set_option linter.unusedVariables false
set_option linter.unusedSimpArgs false
/-- The order of numbers, list by list: -1, 0, 1. -/
def cmpI : List Int → List Int → Int
  | [], [] => 0
  | [], _ :: _ => -1
  | _ :: _, [] => 1
  | x :: a, y :: b => if x < y then -1 else if x > y then 1 else cmpI a b
/-- Of two lists that are equally long: is the first one ahead? -/
def ltB : List Int → List Int → Bool
  | x :: a, y :: b => if x = y then ltB a b else decide (x < y)
  | _, _ => false
theorem cmpI_lt : ∀ {a b : List Int}, a.length = b.length → (cmpI a b < 0 ↔ ltB a b = true)
  | [], [], _ => by simp [cmpI, ltB]
  | [], _ :: _, h => by simp at h
  | _ :: _, [], h => by simp at h
  | x :: a, y :: b, h => by
    have ih := cmpI_lt (a := a) (b := b) (by simpa using h)
    unfold cmpI ltB
    by_cases e : x = y
    · subst e
      simpa using ih
    · rw [if_neg e]
      by_cases l : x < y
      · simp [l]
      · rw [if_neg l, if_pos (by omega)]
        simp [l]
end Go.Proofs.YtflpdjmdkdgijaaGreatDoor.Plain
