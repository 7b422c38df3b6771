/-
  Plain lemmas on the order of words: fewer numbers first, then number by number. No program in sight.
-/
import Derived.Test.YtflpdjmdkdgijaaPlainR
namespace Go.Proofs.Ytflpdjmdkdgijaa.Plain
open Go.RowKit Go.Maps Go.Proofs.YtflpdjmdkdgijaaW.PrintWords Go.Proofs.YtflpdjmdkdgijaaW.PrintLast Go.Proofs.YtflpdjmdkdgijaaW.PrintMore
set_option linter.unusedVariables false
set_option linter.unusedSimpArgs false
/-- Is the first word ahead of the second one? -/
def befW (a b : List Int) : Bool := if a.length = b.length then ltB a b else decide (a.length < b.length)
/-- The order of words: -1, 0, 1. -/
def ordW (a b : List Int) : Int := if a.length < b.length then -1 else if a.length > b.length then 1 else cmpI a b
theorem ordW_lt (a b : List Int) : ordW a b < 0 ↔ befW a b = true := by
  unfold ordW befW
  by_cases e : a.length = b.length
  · rw [if_neg (by omega), if_neg (by omega), if_pos e]
    exact cmpI_lt e
  · rw [if_neg e]
    by_cases h : a.length < b.length
    · rw [if_pos h]; simp [h]
    · rw [if_neg h, if_pos (by omega)]; simp [h]
theorem ltB_trans : ∀ {a b c : List Int}, a.length = b.length → b.length = c.length → ltB a b = true → ltB b c = true → ltB a c = true
  | [], _, _, _, _, h, _ => by simp [ltB] at h
  | _ :: _, [], _, h, _, _, _ => by simp at h
  | _ :: _, _ :: _, [], _, h, _, _ => by simp at h
  | x :: a, y :: b, z :: c, h1, h2, h3, h4 => by
    have ih := ltB_trans (a := a) (b := b) (c := c) (by simpa using h1) (by simpa using h2)
    unfold ltB at h3 h4 ⊢
    by_cases e1 : x = y
    · subst e1
      rw [if_pos rfl] at h3
      by_cases e2 : x = z
      · rw [if_pos e2] at h4
        rw [if_pos e2]
        exact ih h3 h4
      · rw [if_neg e2] at h4
        rw [if_neg e2]
        exact h4
    · rw [if_neg e1] at h3
      have h3' := of_decide_eq_true h3
      by_cases e2 : y = z
      · subst e2
        rw [if_neg e1]
        exact h3
      · rw [if_neg e2] at h4
        have h4' := of_decide_eq_true h4
        rw [if_neg (by omega)]
        exact decide_eq_true (by omega)
theorem ltB_tri : ∀ {a b : List Int}, a.length = b.length → ltB a b = false → ltB b a = false → a = b
  | [], [], _, _, _ => rfl
  | _ :: _, [], h, _, _ => by simp at h
  | [], _ :: _, h, _, _ => by simp at h
  | x :: a, y :: b, h1, h2, h3 => by
    have ih := ltB_tri (a := a) (b := b) (by simpa using h1)
    unfold ltB at h2 h3
    by_cases e : x = y
    · subst e
      rw [if_pos rfl] at h2 h3
      rw [ih h2 h3]
    · rw [if_neg e] at h2
      rw [if_neg (Ne.symm e)] at h3
      have h2' := of_decide_eq_false h2
      have h3' := of_decide_eq_false h3
      omega
theorem befW_self (a : List Int) : befW a a = false := by unfold befW; rw [if_pos rfl]; exact ltB_self a
theorem befW_trans {a b c : List Int} (h1 : befW a b = true) (h2 : befW b c = true) : befW a c = true := by
  unfold befW at h1 h2 ⊢
  by_cases e1 : a.length = b.length
  · rw [if_pos e1] at h1
    by_cases e2 : b.length = c.length
    · rw [if_pos e2] at h2
      rw [if_pos (by omega)]
      exact ltB_trans e1 e2 h1 h2
    · rw [if_neg e2] at h2
      have := of_decide_eq_true h2
      rw [if_neg (by omega)]
      exact decide_eq_true (by omega)
  · rw [if_neg e1] at h1
    have := of_decide_eq_true h1
    by_cases e2 : b.length = c.length
    · rw [if_neg (by omega)]
      exact decide_eq_true (by omega)
    · rw [if_neg e2] at h2
      have := of_decide_eq_true h2
      rw [if_neg (by omega)]
      exact decide_eq_true (by omega)
theorem befW_tri {a b : List Int} (h1 : befW a b = false) (h2 : befW b a = false) : a = b := by
  unfold befW at h1 h2
  by_cases e : a.length = b.length
  · rw [if_pos e] at h1
    rw [if_pos e.symm] at h2
    exact ltB_tri e h1 h2
  · rw [if_neg e] at h1
    rw [if_neg (Ne.symm e)] at h2
    have := of_decide_eq_false h1
    have := of_decide_eq_false h2
    omega
theorem befW_asymm {a b : List Int} (h : befW a b = true) : befW b a = false := by
  cases e : befW b a
  · rfl
  · have := befW_trans h e
    rw [befW_self] at this
    cases this
theorem befW_ne {a b : List Int} (h : befW a b = true) : a ≠ b := by
  rintro rfl
  rw [befW_self] at h
  cases h
/-- Where neither is behind: not less is transitive. -/
theorem befW_ntrans {a b c : List Int} (h1 : befW a b = false) (h2 : befW b c = false) : befW a c = false := by
  cases e : befW a c
  · rfl
  · cases e2 : befW c b
    · have h3 := befW_tri h2 e2
      subst h3
      rw [h1] at e
      cases e
    · have := befW_trans e e2
      rw [h1] at this
      cases this
end Go.Proofs.Ytflpdjmdkdgijaa.Plain
