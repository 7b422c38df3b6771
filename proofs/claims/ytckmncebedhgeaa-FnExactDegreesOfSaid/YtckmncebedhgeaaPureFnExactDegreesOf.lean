/-
  The given law laws.FnExactDegreesOf returns true for every list: the program's DegreesOf answers as the reference's. No condition.
-/
import Derived.Test.YtckmncebedhgeaaEvG
import Derived.Test.YtckmncebedhgeaaGlDegreesOf
namespace Go.Proofs.Ytckmncebedhgeaa.Pure
open Go.RowKit Go.Proofs.Ytckmncebedhgeaa.G Go.Proofs.Ytckmncebedhgeaa.Plain Go.Proofs.YtckmncebedhgeaaW.PrintWords Go.Proofs.YtckmncebedhgeaaW.PrintLast

/-- What DegreesOf answers. -/
def DegreesOfR (w : List Int) : List Int × Int := if isWordB w = true then (degreesL w, 0) else ([], 1)
theorem ev_spec_DegreesOf (w : List Int) (_ : w.length ≤ 1048576) : Ev (fun n => spec_DegreesOf.f n w) (DegreesOfR w) := by
  unfold spec_DegreesOf.f DegreesOfR
  refine Ev.bind (ev_spec_l02Code w) ?_
  by_cases h : isWordB w = true
  · simp only [if_pos h]
    exact Ev.ite_pos trivial (Ev.bind (ev_spec_l01Cross w h) (Ev.bind (ev_spec_l02Degrees w h) (Ev.now _)))
  · simp only [if_neg h]
    exact Ev.ite_neg (by decide) (Ev.now _)
theorem ev_impl_DegreesOf (w : List Int) (_ : w.length ≤ 1048576) (hw : wfB w = true) : Ev (fun n => impl_DegreesOf.f n w) (DegreesOfR w) := by
  unfold impl_DegreesOf.f impl_changedWord_at_impl_degrees.f DegreesOfR
  refine Ev.bind (a := DegreesOfR w) (Ev.bind (ev_impl_IsWord w hw) ?_) (Ev.now _)
  unfold DegreesOfR
  by_cases h : isWordB w = true
  · refine Ev.ite_pos h ?_
    rw [if_pos h]
    exact Ev.bind (ev_impl_degrees w h) (Ev.now _)
  · refine Ev.ite_neg h ?_
    rw [if_neg h]
    exact Ev.now _
theorem DegreesOfR_le (w : List Int) (_ : w.length ≤ 1048576) : (DegreesOfR w).1.length ≤ 12 := by
  unfold DegreesOfR
  split
  · rename_i h
    have := word_length h
    rw [degreesL_length]; omega
  · simp
theorem FnExactDegreesOf : laws_FnExactDegreesOf.Pure := by
  intro l0 hml0 hsl0 hwl0
  have hfl0 : wfB l0 = true := List.all_eq_true.2 hwl0
  refine Ev.rounds ?_
  unfold laws_FnExactDegreesOf.f
  by_cases hl0 : l0.length ≤ 1048576
  rotate_left
  · exact Ev.ite_pos (by omega) (Ev.now _)
  have hr := DegreesOfR_le l0 hl0
  have S := ev_spec_DegreesOf l0 hl0
  have I := ev_impl_DegreesOf l0 hl0 hfl0
  have Tl0 := ev_toInt64S l0 (by omega)
  have El0 := ev_eq_same l0 (by omega)
  have Ml0 := ev_markInt64S l0 1 (by omega) (by omega)
  have ER := ev_eq_same (DegreesOfR l0).1 (by omega)
  have MR := ev_markInt64S (DegreesOfR l0).1 1 (by omega) (by omega)
  have HR := ev_heldInt64S (DegreesOfR l0).1.length 1 (by omega) (by omega)
  repeat (first
    | exact Ev.now _
    | refine Ev.bind Tl0 ?_
    | refine Ev.bind S ?_
    | refine Ev.bind I ?_
    | refine Ev.bind El0 ?_
    | refine Ev.bind Ml0 ?_
    | refine Ev.bind ER ?_
    | refine Ev.bind MR ?_
    | refine Ev.bind HR ?_
    | refine Ev.ite_pos rfl ?_
    | (refine Ev.ite_neg ?_ ?_; focus (first | (simp; done) | (simp; omega) | omega))
    | (apply Ev.step; focus (intro n; first | rw [laws_FnExactDegreesOf.j0] | rw [laws_FnExactDegreesOf.j1] | rw [laws_FnExactDegreesOf.j2])))
end Go.Proofs.Ytckmncebedhgeaa.Pure
