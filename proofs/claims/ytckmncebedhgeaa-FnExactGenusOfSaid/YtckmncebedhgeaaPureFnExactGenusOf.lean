/-
  The given law laws.FnExactGenusOf returns true for every list: the program's GenusOf answers as the reference's. No condition.
-/
import Derived.Test.YtckmncebedhgeaaEvB
import Derived.Test.YtckmncebedhgeaaGlGenusOf
namespace Go.Proofs.Ytckmncebedhgeaa.Pure
open Go.RowKit Go.Proofs.Ytckmncebedhgeaa.G Go.Proofs.Ytckmncebedhgeaa.Plain Go.Proofs.YtckmncebedhgeaaW.PrintWords Go.Proofs.YtckmncebedhgeaaW.PrintLast

/-- What GenusOf answers. -/
def genusL (w : List Int) : Int := wrap64 (Int.tdiv (wrap64 ((wrap64 (((w.length / 2 : Nat) : Int) + 1)) - ((max (circsL w) 1 : Nat) : Int))) 2)
def GenusOfR (w : List Int) : Int × Int := if isWordB w = true then (genusL w, 0) else (0, 1)
theorem ev_spec_GenusOf (w : List Int) (_ : w.length ≤ 1048576) : Ev (fun n => spec_GenusOf.f n w) (GenusOfR w) := by
  unfold spec_GenusOf.f GenusOfR
  refine Ev.bind (ev_spec_l02Code w) ?_
  by_cases h : isWordB w = true
  · simp only [if_pos h]
    refine Ev.ite_pos trivial (Ev.bind (ev_spec_l02Circles w h) ?_)
    rw [half_wrap (by omega)]
    exact Ev.now _
  · simp only [if_neg h]
    exact Ev.ite_neg (by decide) (Ev.now _)
theorem ev_impl_GenusOf (w : List Int) (_ : w.length ≤ 1048576) (hw : wfB w = true) : Ev (fun n => impl_GenusOf.f n w) (GenusOfR w) := by
  unfold impl_GenusOf.f impl_countOf_at_impl_GenusOf_1.f
  refine Ev.bind (a := GenusOfR w) (Ev.bind (ev_impl_IsWord w hw) ?_) (Ev.now _)
  unfold GenusOfR
  by_cases h : isWordB w = true
  · refine Ev.ite_pos h ?_
    rw [if_pos h]
    refine Ev.bind (a := genusL w) ?_ (Ev.now _)
    unfold impl_GenusOf_1.f impl_chords.f
    rw [half_wrap (by omega)]
    exact Ev.bind (Ev.now _) (Ev.bind (ev_impl_borders w h) (Ev.now _))
  · refine Ev.ite_neg h ?_
    rw [if_neg h]
    exact Ev.now _
theorem FnExactGenusOf : laws_FnExactGenusOf.Pure := by
  intro l0 hml0 hsl0 hwl0
  have hfl0 : wfB l0 = true := List.all_eq_true.2 hwl0
  refine Ev.rounds ?_
  unfold laws_FnExactGenusOf.f
  by_cases hl0 : l0.length ≤ 1048576
  rotate_left
  · exact Ev.ite_pos (by omega) (Ev.now _)
  have S := ev_spec_GenusOf l0 hl0
  have I := ev_impl_GenusOf l0 hl0 hfl0
  have Tl0 := ev_toInt64S l0 (by omega)
  have El0 := ev_eq_same l0 (by omega)
  have Ml0 := ev_markInt64S l0 1 (by omega) (by omega)
  repeat (first
    | exact Ev.now _
    | refine Ev.bind Tl0 ?_
    | refine Ev.bind S ?_
    | refine Ev.bind I ?_
    | refine Ev.bind El0 ?_
    | refine Ev.bind Ml0 ?_
    | refine Ev.ite_pos rfl ?_
    | (refine Ev.ite_neg ?_ ?_; focus (first | (simp; done) | (simp; omega) | omega))
    | (apply Ev.step; focus (intro n; first | rw [laws_FnExactGenusOf.j0])))
end Go.Proofs.Ytckmncebedhgeaa.Pure
