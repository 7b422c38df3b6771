/-
  Plain lemmas on rotations and the order of words. No program in sight.
-/
import Derived.Test.YtpfhbdpmafcnfaaTPlainB
namespace Go.Proofs.Ytpfhbdpmafcnfaa.Plain
open Go.RowKit Go.Maps Go.Proofs.YtpfhbdpmafcnfaaW.PrintWords Go.Proofs.YtpfhbdpmafcnfaaW.PrintLast Go.Proofs.YtpfhbdpmafcnfaaW.PrintMore
set_option linter.unusedVariables false
set_option linter.unusedSimpArgs false
def rotL (w : List Int) (k : Nat) : List Int := normalL (w.drop k ++ w.take k)
theorem rotL_length (w : List Int) (k : Nat) : (rotL w k).length = w.length := by
  unfold rotL; rw [normalL_length, List.length_append, List.length_drop, List.length_take]; omega
theorem rotL_zero {w : List Int} (h : isWordB w = true) : rotL w 0 = w := by
  unfold rotL; simpa using word_normal h
theorem mem_rot (w : List Int) (k : Nat) (x : Int) : x ∈ w.drop k ++ w.take k ↔ x ∈ w := by
  rw [List.mem_append, Or.comm, ← List.mem_append, List.take_append_drop]
theorem wfB_rot {w : List Int} (h : wfB w = true) (k : Nat) : wfB (w.drop k ++ w.take k) = true := by
  refine List.all_eq_true.2 fun x hx => ?_
  exact List.all_eq_true.1 h x ((mem_rot w k x).1 hx)
theorem normalL_bound (l : List Int) : ∀ x ∈ normalL l, 0 ≤ x ∧ x ≤ l.length := by
  intro x hx
  obtain ⟨y, _, rfl⟩ := List.mem_map.1 hx
  have h1 : (firsts l).idxOf y ≤ (firsts l).length := List.idxOf_le_length
  have h2 := firsts_length_le l
  omega
def cmpI : List Int → List Int → Int
  | [], [] => 0
  | [], _ :: _ => -1
  | _ :: _, [] => 1
  | x :: a, y :: b => if x < y then -1 else if x > y then 1 else cmpI a b
def ltB : List Int → List Int → Bool
  | x :: a, y :: b => if x = y then ltB a b else decide (x < y)
  | _, _ => false
theorem ltB_self : ∀ a : List Int, ltB a a = false
  | [] => rfl
  | x :: a => by simp [ltB, ltB_self a]
theorem cmpI_lt : ∀ {a b : List Int}, a.length = b.length → (cmpI a b < 0 ↔ ltB a b = true)
  | [], [], _ => by simp [cmpI, ltB]
  | [], _ :: _, h => by simp at h
  | _ :: _, [], h => by simp at h
  | x :: a, y :: b, h => by
    have ih := cmpI_lt (a := a) (b := b) (by simpa using h)
    unfold cmpI ltB
    by_cases e : x = y
    · subst e
      simpa using ih
    · rw [if_neg e]
      by_cases l : x < y
      · simp [l]
      · rw [if_neg l, if_pos (by omega)]
        simp [l]
def leastFrom (w : List Int) : Nat → Nat → List Int → List Int
  | 0, _, best => best
  | d + 1, k, best => leastFrom w d (k + 1) (if ltB (rotL w k) best = true then rotL w k else best)
def leastL (w : List Int) : List Int := leastFrom w (w.length - 1) 1 w
theorem leastL_zero {w : List Int} (h : isWordB w = true) : leastFrom w w.length 0 w = leastL w := by
  unfold leastL
  cases hl : w.length with
  | zero => rfl
  | succ n =>
    show leastFrom w n 1 (if ltB (rotL w 0) w = true then rotL w 0 else w) = _
    rw [rotL_zero h, ltB_self]
    rfl
end Go.Proofs.Ytpfhbdpmafcnfaa.Plain
