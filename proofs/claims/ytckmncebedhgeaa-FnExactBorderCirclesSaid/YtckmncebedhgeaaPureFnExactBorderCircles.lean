/-
  The given law laws.FnExactBorderCircles returns true for every list: the program's BorderCircles answers as the reference's. No condition.
-/
import Derived.Test.YtckmncebedhgeaaEvB
import Derived.Test.YtckmncebedhgeaaGlBorderCircles
namespace Go.Proofs.Ytckmncebedhgeaa.Pure
open Go.RowKit Go.Proofs.Ytckmncebedhgeaa.G Go.Proofs.Ytckmncebedhgeaa.Plain Go.Proofs.YtckmncebedhgeaaW.PrintWords Go.Proofs.YtckmncebedhgeaaW.PrintLast

/-- What BorderCircles answers. -/
def BorderCirclesR (w : List Int) : Int × Int := if isWordB w = true then ((max (circsL w) 1 : Nat), 0) else (0, 1)
theorem ev_spec_BorderCircles (w : List Int) (_ : w.length ≤ 1048576) : Ev (fun n => spec_BorderCircles.f n w) (BorderCirclesR w) := by
  unfold spec_BorderCircles.f BorderCirclesR
  refine Ev.bind (ev_spec_l02Code w) ?_
  by_cases h : isWordB w = true
  · simp only [if_pos h]
    exact Ev.ite_pos trivial (Ev.bind (ev_spec_l02Circles w h) (Ev.now _))
  · simp only [if_neg h]
    exact Ev.ite_neg (by decide) (Ev.now _)
theorem ev_impl_BorderCircles (w : List Int) (_ : w.length ≤ 1048576) (hw : wfB w = true) : Ev (fun n => impl_BorderCircles.f n w) (BorderCirclesR w) := by
  unfold impl_BorderCircles.f impl_countOf_at_impl_borders.f
  refine Ev.bind (a := BorderCirclesR w) (Ev.bind (ev_impl_IsWord w hw) ?_) (Ev.now _)
  unfold BorderCirclesR
  by_cases h : isWordB w = true
  · refine Ev.ite_pos h ?_
    rw [if_pos h]
    exact Ev.bind (ev_impl_borders w h) (Ev.now _)
  · refine Ev.ite_neg h ?_
    rw [if_neg h]
    exact Ev.now _
theorem FnExactBorderCircles : laws_FnExactBorderCircles.Pure := by
  intro l0 hml0 hsl0 hwl0
  have hfl0 : wfB l0 = true := List.all_eq_true.2 hwl0
  refine Ev.rounds ?_
  unfold laws_FnExactBorderCircles.f
  by_cases hl0 : l0.length ≤ 1048576
  rotate_left
  · exact Ev.ite_pos (by omega) (Ev.now _)
  have S := ev_spec_BorderCircles l0 hl0
  have I := ev_impl_BorderCircles l0 hl0 hfl0
  have Tl0 := ev_toInt64S l0 (by omega)
  have El0 := ev_eq_same l0 (by omega)
  have Ml0 := ev_markInt64S l0 1 (by omega) (by omega)
  repeat (first
    | exact Ev.now _
    | refine Ev.bind Tl0 ?_
    | refine Ev.bind S ?_
    | refine Ev.bind I ?_
    | refine Ev.bind El0 ?_
    | refine Ev.bind Ml0 ?_
    | refine Ev.ite_pos rfl ?_
    | (refine Ev.ite_neg ?_ ?_; focus (first | (simp; done) | (simp; omega) | omega))
    | (apply Ev.step; focus (intro n; first | rw [laws_FnExactBorderCircles.j0])))
end Go.Proofs.Ytckmncebedhgeaa.Pure
