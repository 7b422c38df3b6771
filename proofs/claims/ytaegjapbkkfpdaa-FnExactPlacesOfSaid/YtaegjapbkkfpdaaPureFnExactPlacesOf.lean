/-
  The given law laws.FnExactPlacesOf returns true for every list and number: the program's PlacesOf answers as the reference's. No condition.
-/
import Derived.Test.YtaegjapbkkfpdaaEvP
import Derived.Test.YtaegjapbkkfpdaaG10
namespace Go.Proofs.Ytaegjapbkkfpdaa.Pure
open Go.RowKit Go.Proofs.Ytaegjapbkkfpdaa.G Go.Proofs.Ytaegjapbkkfpdaa.Plain Go.Proofs.YtaegjapbkkfpdaaW.PrintWords Go.Proofs.YtaegjapbkkfpdaaW.PrintLast

/-- What PlacesOf answers. -/
def PlacesOfR (w : List Int) (i : Int) : List Int × Int := if isWordB w = true then (if 0 ≤ i ∧ i ≤ ((w.length / 2 : Nat) : Int) - 1 then ([(fstP w i : Int), (sndP w i : Int)], 0) else ([], 2)) else ([], 1)
theorem ev_spec_PlacesOf (w : List Int) (i : Int) (hl : w.length ≤ 1048576) : Ev (fun n => spec_PlacesOf.f n w i) (PlacesOfR w i) := by
  unfold spec_PlacesOf.f
  rw [half_wrap (by omega), wrap_of (by omega) (by omega)]
  refine Ev.bind (ev_spec_l01Code w i _) ?_
  by_cases h : isWordB w = true
  · by_cases h2 : 0 ≤ i ∧ i ≤ ((w.length / 2 : Nat) : Int) - 1
    · have e : codeL w i (((w.length / 2 : Nat) : Int) - 1) = 0 := by unfold codeL; rw [if_pos h, if_pos h2]
      have e2 : PlacesOfR w i = ([(fstP w i : Int), (sndP w i : Int)], 0) := by unfold PlacesOfR; rw [if_pos h, if_pos h2]
      rw [e, e2]
      exact Ev.ite_pos rfl (Ev.bind (ev_spec_l01Places w i (by omega) (word_count h h2.1 (by omega))) (Ev.now _))
    · have e : codeL w i (((w.length / 2 : Nat) : Int) - 1) = 2 := by unfold codeL; rw [if_pos h, if_neg h2]
      have e2 : PlacesOfR w i = ([], 2) := by unfold PlacesOfR; rw [if_pos h, if_neg h2]
      rw [e, e2]
      exact Ev.ite_neg (by decide) (Ev.now _)
  · have e : codeL w i (((w.length / 2 : Nat) : Int) - 1) = 1 := by unfold codeL; rw [if_neg h]
    have e2 : PlacesOfR w i = ([], 1) := by unfold PlacesOfR; rw [if_neg h]
    rw [e, e2]
    exact Ev.ite_neg (by decide) (Ev.now _)
theorem ev_impl_PlacesOf (w : List Int) (i : Int) (hl : w.length ≤ 1048576) (hw : wfB w = true) : Ev (fun n => impl_PlacesOf.f n w i) (PlacesOfR w i) := by
  unfold impl_PlacesOf.f
  refine Ev.bind (ev_impl_IsWord w hw) ?_
  by_cases h : isWordB w = true
  · refine Ev.ite_pos h (Ev.bind (Ev.const (impl_isChord_f (by omega) i)) ?_)
    by_cases h2 : 0 ≤ i ∧ i ≤ ((w.length / 2 : Nat) : Int) - 1
    · have e2 : PlacesOfR w i = ([(fstP w i : Int), (sndP w i : Int)], 0) := by unfold PlacesOfR; rw [if_pos h, if_pos h2]
      rw [e2]
      exact Ev.ite_pos (decide_eq_true h2) (Ev.bind (ev_impl_places w i (by omega) (word_count h h2.1 (by omega))) (Ev.now _))
    · have e2 : PlacesOfR w i = ([], 2) := by unfold PlacesOfR; rw [if_pos h, if_neg h2]
      rw [e2]
      exact Ev.ite_neg (by simpa using h2) (Ev.now _)
  · have e2 : PlacesOfR w i = ([], 1) := by unfold PlacesOfR; rw [if_neg h]
    rw [e2]
    exact Ev.ite_neg h (Ev.now _)
theorem PlacesOfR_le (w : List Int) (i : Int) (_ : w.length ≤ 1048576) : (PlacesOfR w i).1.length ≤ 12 := by
  unfold PlacesOfR
  split
  · split <;> simp
  · simp
theorem FnExactPlacesOf : laws_FnExactPlacesOf.Pure := by
  intro l0 i1 hml0 hsl0 hwl0 hsi1
  have hfl0 : wfB l0 = true := List.all_eq_true.2 hwl0
  refine Ev.rounds ?_
  unfold laws_FnExactPlacesOf.f
  by_cases hl0 : l0.length ≤ 1048576
  rotate_left
  · exact Ev.ite_pos (by omega) (Ev.now _)
  have hr := PlacesOfR_le l0 i1 hl0
  have S := ev_spec_PlacesOf l0 i1 hl0
  have I := ev_impl_PlacesOf l0 i1 hl0 hfl0
  have Tl0 := ev_toInt64S l0 (by omega)
  have El0 := ev_eq_same l0 (by omega)
  have Ml0 := ev_markInt64S l0 1 (by omega) (by omega)
  have ER := ev_eq_same (PlacesOfR l0 i1).1 (by omega)
  have MR := ev_markInt64S (PlacesOfR l0 i1).1 1 (by omega) (by omega)
  have HR := ev_heldInt64S (PlacesOfR l0 i1).1.length 1 (by omega) (by omega)
  repeat (first
    | exact Ev.now _
    | refine Ev.bind Tl0 ?_
    | refine Ev.bind S ?_
    | refine Ev.bind I ?_
    | refine Ev.bind El0 ?_
    | refine Ev.bind Ml0 ?_
    | refine Ev.bind ER ?_
    | refine Ev.bind MR ?_
    | refine Ev.bind HR ?_
    | refine Ev.ite_pos rfl ?_
    | (refine Ev.ite_neg ?_ ?_; focus (first | (simp; done) | (simp; omega) | omega))
    | (apply Ev.step; focus (intro n; first | rw [laws_FnExactPlacesOf.j0] | rw [laws_FnExactPlacesOf.j1] | rw [laws_FnExactPlacesOf.j2])))
end Go.Proofs.Ytaegjapbkkfpdaa.Pure
