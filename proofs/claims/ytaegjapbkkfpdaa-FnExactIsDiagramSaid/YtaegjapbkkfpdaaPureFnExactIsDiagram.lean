/-
  The given law laws.FnExactIsDiagram returns true for every list: the program's IsDiagram answers as the reference's. No condition.
-/
import Derived.Test.YtaegjapbkkfpdaaEvR
import Derived.Test.YtaegjapbkkfpdaaGlIsDiagram
namespace Go.Proofs.Ytaegjapbkkfpdaa.Pure
open Go.RowKit Go.Proofs.Ytaegjapbkkfpdaa.G Go.Proofs.Ytaegjapbkkfpdaa.Plain Go.Proofs.YtaegjapbkkfpdaaW.PrintWords Go.Proofs.YtaegjapbkkfpdaaW.PrintLast

/-- What IsDiagram answers. -/
def IsDiagramR (w : List Int) : Bool × Int := if isWordB w = true then (decide (leastL w = w), 0) else (false, 1)
theorem ev_spec_IsDiagram (w : List Int) (hl : w.length ≤ 1048576) : Ev (fun n => spec_IsDiagram.f n w) (IsDiagramR w) := by
  unfold spec_IsDiagram.f
  refine Ev.bind (ev_spec_l01Is w) ?_
  by_cases h : isWordB w = true
  · have e : IsDiagramR w = (decide (leastL w = w), 0) := by unfold IsDiagramR; rw [if_pos h]
    rw [e]
    exact Ev.ite_pos h (Ev.bind (ev_spec_l01Least w hl) (Ev.bind (ev_spec_l01Same _ _ (by rw [leastL_length]; omega)) (Ev.now _)))
  · have e : IsDiagramR w = (false, 1) := by unfold IsDiagramR; rw [if_neg h]
    rw [e]
    exact Ev.ite_neg h (Ev.now _)
theorem ev_impl_IsDiagram (w : List Int) (hl : w.length ≤ 1048576) (hw : wfB w = true) : Ev (fun n => impl_IsDiagram.f n w) (IsDiagramR w) := by
  unfold impl_IsDiagram.f impl_isDiagram.f
  refine Ev.bind (ev_impl_IsWord w hw) ?_
  by_cases h : isWordB w = true
  · have e : IsDiagramR w = (decide (leastL w = w), 0) := by unfold IsDiagramR; rw [if_pos h]
    rw [e]
    exact Ev.ite_pos h (Ev.bind (Ev.bind (ev_impl_least w h) (Ev.bind (ev_slices_Equal _ _ (by rw [leastL_length]; omega)) (Ev.now _))) (Ev.now _))
  · have e : IsDiagramR w = (false, 1) := by unfold IsDiagramR; rw [if_neg h]
    rw [e]
    exact Ev.ite_neg h (Ev.now _)
theorem FnExactIsDiagram : laws_FnExactIsDiagram.Pure := by
  intro l0 hml0 hsl0 hwl0
  have hfl0 : wfB l0 = true := List.all_eq_true.2 hwl0
  refine Ev.rounds ?_
  unfold laws_FnExactIsDiagram.f
  by_cases hl0 : l0.length ≤ 1048576
  rotate_left
  · exact Ev.ite_pos (by omega) (Ev.now _)
  have S := ev_spec_IsDiagram l0 hl0
  have I := ev_impl_IsDiagram l0 hl0 hfl0
  have Tl0 := ev_toInt64S l0 (by omega)
  have El0 := ev_eq_same l0 (by omega)
  have Ml0 := ev_markInt64S l0 1 (by omega) (by omega)
  repeat (first
    | exact Ev.now _
    | refine Ev.bind Tl0 ?_
    | refine Ev.bind S ?_
    | refine Ev.bind I ?_
    | refine Ev.bind El0 ?_
    | refine Ev.bind Ml0 ?_
    | refine Ev.ite_pos rfl ?_
    | (refine Ev.ite_neg ?_ ?_; focus (first | (simp; done) | (simp; omega) | omega))
    | (apply Ev.step; focus (intro n; first | rw [laws_FnExactIsDiagram.j0])))
end Go.Proofs.Ytaegjapbkkfpdaa.Pure
