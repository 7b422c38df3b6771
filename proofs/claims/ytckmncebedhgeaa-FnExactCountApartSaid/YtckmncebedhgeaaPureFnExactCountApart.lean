/-
  The given law laws.FnExactCountApart returns true for every list: the program's CountApart answers as the reference's. No condition.
-/
import Derived.Test.YtckmncebedhgeaaEvN
import Derived.Test.YtckmncebedhgeaaGlCountApart
namespace Go.Proofs.Ytckmncebedhgeaa.Pure
open Go.RowKit Go.Proofs.Ytckmncebedhgeaa.G Go.Proofs.Ytckmncebedhgeaa.Plain Go.Proofs.YtckmncebedhgeaaW.PrintWords Go.Proofs.YtckmncebedhgeaaW.PrintLast

/-- What CountApart answers. -/
def CountApartR (w : List Int) : Int × Int := if isWordB w = true then ((outF (apartS w) (w.length / 2) 0 : Nat), 0) else (0, 1)
theorem ev_spec_CountApart (w : List Int) (_ : w.length ≤ 1048576) : Ev (fun n => spec_CountApart.f n w) (CountApartR w) := by
  unfold spec_CountApart.f CountApartR
  refine Ev.bind (ev_spec_l02Code w) ?_
  by_cases h : isWordB w = true
  · simp only [if_pos h]
    exact Ev.ite_pos trivial (Ev.bind (ev_spec_l02Pairs w h) (Ev.now _))
  · simp only [if_neg h]
    exact Ev.ite_neg (by decide) (Ev.now _)
theorem ev_impl_CountApart (w : List Int) (hl : w.length ≤ 1048576) (hw : wfB w = true) : Ev (fun n => impl_CountApart.f n w) (CountApartR w) := by
  unfold impl_CountApart.f impl_countOf_at_impl_CountApart_1.f
  refine Ev.bind (a := CountApartR w) (Ev.bind (ev_impl_IsWord w hw) ?_) (Ev.now _)
  unfold CountApartR
  by_cases h : isWordB w = true
  · have hlen := word_length h
    refine Ev.ite_pos h ?_
    rw [if_pos h]
    refine Ev.bind (a := ((outF (apartS w) (w.length / 2) 0 : Nat) : Int)) ?_ (Ev.now _)
    obtain ⟨K, hK⟩ := ev_pairs (fun k => impl_CountApart_1.q k w) (apartS w) (w.length / 2) (fun i j hi hj => by
      have cy := word_count h (x := (i : Int)) (by omega) (by omega)
      have cx := word_count h (x := (j : Int)) (by omega) (by omega)
      rw [← apart_same h hj hi]
      unfold impl_CountApart_1.q
      refine Ev.bind (ev_impl_cross w j i (by omega) cx cy) ?_
      by_cases hc : crossB w j i = true
      · refine Ev.ite_pos hc ?_
        rw [if_pos hc]
        exact Ev.now _
      · refine Ev.ite_neg hc ?_
        rw [if_neg hc]
        exact Ev.bind (ev_impl_nested w j i hlen cx cy) (Ev.now _))
    refine ⟨K, fun k hk => ?_⟩
    show impl_CountApart_1.f k w = _
    unfold impl_CountApart_1.f
    rw [if_pos ⟨(hK k hk).1, hl⟩, (hK k hk).2]
  · refine Ev.ite_neg h ?_
    rw [if_neg h]
    exact Ev.now _
theorem FnExactCountApart : laws_FnExactCountApart.Pure := by
  intro l0 hml0 hsl0 hwl0
  have hfl0 : wfB l0 = true := List.all_eq_true.2 hwl0
  refine Ev.rounds ?_
  unfold laws_FnExactCountApart.f
  by_cases hl0 : l0.length ≤ 1048576
  rotate_left
  · exact Ev.ite_pos (by omega) (Ev.now _)
  have S := ev_spec_CountApart l0 hl0
  have I := ev_impl_CountApart l0 hl0 hfl0
  have Tl0 := ev_toInt64S l0 (by omega)
  have El0 := ev_eq_same l0 (by omega)
  have Ml0 := ev_markInt64S l0 1 (by omega) (by omega)
  repeat (first
    | exact Ev.now _
    | refine Ev.bind Tl0 ?_
    | refine Ev.bind S ?_
    | refine Ev.bind I ?_
    | refine Ev.bind El0 ?_
    | refine Ev.bind Ml0 ?_
    | refine Ev.ite_pos rfl ?_
    | (refine Ev.ite_neg ?_ ?_; focus (first | (simp; done) | (simp; omega) | omega))
    | (apply Ev.step; focus (intro n; first | rw [laws_FnExactCountApart.j0])))
end Go.Proofs.Ytckmncebedhgeaa.Pure
