/-
  The given law laws.FnExactCountNested returns true for every list: the program's CountNested answers as the reference's. No condition.
-/
import Derived.Test.YtckmncebedhgeaaEvN
import Derived.Test.YtckmncebedhgeaaGlCountNested
namespace Go.Proofs.Ytckmncebedhgeaa.Pure
open Go.RowKit Go.Proofs.Ytckmncebedhgeaa.G Go.Proofs.Ytckmncebedhgeaa.Plain Go.Proofs.YtckmncebedhgeaaW.PrintWords Go.Proofs.YtckmncebedhgeaaW.PrintLast

/-- What CountNested answers. -/
def CountNestedR (w : List Int) : Int × Int := if isWordB w = true then ((outF (nestS w) (w.length / 2) 0 : Nat), 0) else (0, 1)
theorem ev_spec_CountNested (w : List Int) (_ : w.length ≤ 1048576) : Ev (fun n => spec_CountNested.f n w) (CountNestedR w) := by
  unfold spec_CountNested.f CountNestedR
  refine Ev.bind (ev_spec_l02Code w) ?_
  by_cases h : isWordB w = true
  · simp only [if_pos h]
    exact Ev.ite_pos trivial (Ev.bind (ev_spec_l02Pairs w h) (Ev.now _))
  · simp only [if_neg h]
    exact Ev.ite_neg (by decide) (Ev.now _)
theorem ev_impl_CountNested (w : List Int) (hl : w.length ≤ 1048576) (hw : wfB w = true) : Ev (fun n => impl_CountNested.f n w) (CountNestedR w) := by
  unfold impl_CountNested.f impl_countOf_at_impl_CountNested_1.f
  refine Ev.bind (a := CountNestedR w) (Ev.bind (ev_impl_IsWord w hw) ?_) (Ev.now _)
  unfold CountNestedR
  by_cases h : isWordB w = true
  · have hlen := word_length h
    refine Ev.ite_pos h ?_
    rw [if_pos h]
    refine Ev.bind (a := ((outF (nestS w) (w.length / 2) 0 : Nat) : Int)) ?_ (Ev.now _)
    obtain ⟨K, hK⟩ := ev_pairs (fun k => impl_CountNested_1.q k w) (nestS w) (w.length / 2) (fun i j hi hj => by
      have cy := word_count h (x := (i : Int)) (by omega) (by omega)
      have cx := word_count h (x := (j : Int)) (by omega) (by omega)
      rw [← nest_same h hj hi]
      exact ev_impl_nested w j i hlen cx cy)
    refine ⟨K, fun k hk => ?_⟩
    show impl_CountNested_1.f k w = _
    unfold impl_CountNested_1.f
    rw [if_pos ⟨(hK k hk).1, hl⟩, (hK k hk).2]
  · refine Ev.ite_neg h ?_
    rw [if_neg h]
    exact Ev.now _
theorem FnExactCountNested : laws_FnExactCountNested.Pure := by
  intro l0 hml0 hsl0 hwl0
  have hfl0 : wfB l0 = true := List.all_eq_true.2 hwl0
  refine Ev.rounds ?_
  unfold laws_FnExactCountNested.f
  by_cases hl0 : l0.length ≤ 1048576
  rotate_left
  · exact Ev.ite_pos (by omega) (Ev.now _)
  have S := ev_spec_CountNested l0 hl0
  have I := ev_impl_CountNested l0 hl0 hfl0
  have Tl0 := ev_toInt64S l0 (by omega)
  have El0 := ev_eq_same l0 (by omega)
  have Ml0 := ev_markInt64S l0 1 (by omega) (by omega)
  repeat (first
    | exact Ev.now _
    | refine Ev.bind Tl0 ?_
    | refine Ev.bind S ?_
    | refine Ev.bind I ?_
    | refine Ev.bind El0 ?_
    | refine Ev.bind Ml0 ?_
    | refine Ev.ite_pos rfl ?_
    | (refine Ev.ite_neg ?_ ?_; focus (first | (simp; done) | (simp; omega) | omega))
    | (apply Ev.step; focus (intro n; first | rw [laws_FnExactCountNested.j0])))
end Go.Proofs.Ytckmncebedhgeaa.Pure
