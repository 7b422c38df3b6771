/-
  Plain lemmas on rotations and the order of words. No program in sight.
-/
import Derived.Test.YtflpdjmdkdgijaaPlainB
namespace Go.Proofs.Ytflpdjmdkdgijaa.Plain
open Go.RowKit Go.Maps Go.Proofs.YtflpdjmdkdgijaaW.PrintWords Go.Proofs.YtflpdjmdkdgijaaW.PrintLast Go.Proofs.YtflpdjmdkdgijaaW.PrintMore
set_option linter.unusedVariables false
set_option linter.unusedSimpArgs false
/-- A word rotated. -/
def rotL (w : List Int) (k : Nat) : List Int := normalL (w.drop k ++ w.take k)
theorem rotL_length (w : List Int) (k : Nat) : (rotL w k).length = w.length := by
  unfold rotL; rw [normalL_length, List.length_append, List.length_drop, List.length_take]; omega
theorem rotL_zero {w : List Int} (h : isWordB w = true) : rotL w 0 = w := by
  unfold rotL; simpa using word_normal h
theorem mem_rot (w : List Int) (k : Nat) (x : Int) : x ∈ w.drop k ++ w.take k ↔ x ∈ w := by
  rw [List.mem_append, Or.comm, ← List.mem_append, List.take_append_drop]
theorem wfB_rot {w : List Int} (h : wfB w = true) (k : Nat) : wfB (w.drop k ++ w.take k) = true := by
  refine List.all_eq_true.2 fun x hx => ?_
  exact List.all_eq_true.1 h x ((mem_rot w k x).1 hx)
theorem normalL_bound (l : List Int) : ∀ x ∈ normalL l, 0 ≤ x ∧ x ≤ l.length := by
  intro x hx
  obtain ⟨y, _, rfl⟩ := List.mem_map.1 hx
  have h1 : (firsts l).idxOf y ≤ (firsts l).length := List.idxOf_le_length
  have h2 := firsts_length_le l
  omega
theorem wfB_normal {l : List Int} (h : l.length ≤ 9223372036854775807) : wfB (normalL l) = true := by
  refine List.all_eq_true.2 fun x hx => ?_
  have := normalL_bound l x hx
  exact WalkArith.wf_i64 (by omega)
/-- The order of numbers, list by list: -1, 0, 1. -/
def cmpI : List Int → List Int → Int
  | [], [] => 0
  | [], _ :: _ => -1
  | _ :: _, [] => 1
  | x :: a, y :: b => if x < y then -1 else if x > y then 1 else cmpI a b
/-- Of two lists that are equally long: is the first one ahead? -/
def ltB : List Int → List Int → Bool
  | x :: a, y :: b => if x = y then ltB a b else decide (x < y)
  | _, _ => false
theorem cmpI_self : ∀ a : List Int, cmpI a a = 0
  | [] => rfl
  | x :: a => by simp [cmpI, cmpI_self a]
theorem ltB_self : ∀ a : List Int, ltB a a = false
  | [] => rfl
  | x :: a => by simp [ltB, ltB_self a]
theorem cmpI_lt : ∀ {a b : List Int}, a.length = b.length → (cmpI a b < 0 ↔ ltB a b = true)
  | [], [], _ => by simp [cmpI, ltB]
  | [], _ :: _, h => by simp at h
  | _ :: _, [], h => by simp at h
  | x :: a, y :: b, h => by
    have ih := cmpI_lt (a := a) (b := b) (by simpa using h)
    unfold cmpI ltB
    by_cases e : x = y
    · subst e
      simpa using ih
    · rw [if_neg e]
      by_cases l : x < y
      · simp [l]
      · rw [if_neg l, if_pos (by omega)]
        simp [l]
/-- The least of some rotations and of what one has. -/
def leastFrom (w : List Int) : Nat → Nat → List Int → List Int
  | 0, _, best => best
  | d + 1, k, best => leastFrom w d (k + 1) (if ltB (rotL w k) best = true then rotL w k else best)
/-- The least rotation. -/
def leastL (w : List Int) : List Int := leastFrom w (w.length - 1) 1 w
theorem leastFrom_length (w : List Int) : ∀ (d k : Nat) (best : List Int), best.length = w.length → (leastFrom w d k best).length = w.length
  | 0, _, best, h => h
  | d + 1, k, best, h => by
    unfold leastFrom
    refine leastFrom_length w d (k + 1) _ ?_
    split
    · exact rotL_length w k
    · exact h
theorem leastL_length (w : List Int) : (leastL w).length = w.length := leastFrom_length w _ _ _ rfl
/-- Begun with the word itself at the rotation by 0. -/
theorem leastL_zero {w : List Int} (h : isWordB w = true) : leastFrom w w.length 0 w = leastL w := by
  unfold leastL
  cases hl : w.length with
  | zero => rfl
  | succ n =>
    show leastFrom w n 1 (if ltB (rotL w 0) w = true then rotL w 0 else w) = _
    rw [rotL_zero h, ltB_self]
    rfl
end Go.Proofs.Ytflpdjmdkdgijaa.Plain
