/-
  The given law laws.FnExactJoinWords returns true for every two lists: the program's JoinWords answers as the reference's. No condition.
-/
import Derived.Test.YtaegjapbkkfpdaaEvJ
import Derived.Test.YtaegjapbkkfpdaaGlJoinWords
namespace Go.Proofs.Ytaegjapbkkfpdaa.Pure
open Go.RowKit Go.Proofs.Ytaegjapbkkfpdaa.G Go.Proofs.Ytaegjapbkkfpdaa.Plain Go.Proofs.YtaegjapbkkfpdaaW.PrintWords Go.Proofs.YtaegjapbkkfpdaaW.PrintLast

/-- What JoinWords answers. -/
def JoinWordsR (a b : List Int) : List Int × Int := if isWordB a = true ∧ isWordB b = true then (if 12 < a.length + b.length then ([], 3) else (joinL a b, 0)) else ([], 1)
theorem JoinWordsR_le (a b : List Int) (_ : a.length ≤ 1048576) (_ : b.length ≤ 1048576) : (JoinWordsR a b).1.length ≤ 12 := by
  unfold JoinWordsR
  split
  · split
    · simp
    · rw [joinL_length]; omega
  · simp
theorem ev_spec_JoinWords (a b : List Int) (hla : a.length ≤ 1048576) (hlb : b.length ≤ 1048576) : Ev (fun n => spec_JoinWords.f n a b) (JoinWordsR a b) := by
  unfold spec_JoinWords.f
  refine Ev.bind (ev_spec_l01Is a) ?_
  by_cases h : isWordB a = true
  · refine Ev.ite_pos h (Ev.bind (ev_spec_l01Is b) ?_)
    refine Ev.step (fun n => by rw [spec_JoinWords.j0]) ?_
    by_cases h2 : isWordB b = true
    · rw [h2, wrap_of (by omega) (by omega)]
      refine Ev.ite_neg (by decide) ?_
      by_cases h3 : 12 < a.length + b.length
      · have e : JoinWordsR a b = ([], 3) := by unfold JoinWordsR; rw [if_pos ⟨h, h2⟩, if_pos h3]
        rw [e]
        exact Ev.ite_pos (by omega) (Ev.now _)
      · have e : JoinWordsR a b = (joinL a b, 0) := by unfold JoinWordsR; rw [if_pos ⟨h, h2⟩, if_neg h3]
        rw [e]
        exact Ev.ite_neg (by omega) (Ev.bind (ev_spec_l01Join a b hla hlb) (Ev.now _))
    · have e : JoinWordsR a b = ([], 1) := by unfold JoinWordsR; rw [if_neg (fun q => h2 q.2)]
      rw [e]
      exact Ev.ite_pos (by simpa using h2) (Ev.now _)
  · have e : JoinWordsR a b = ([], 1) := by unfold JoinWordsR; rw [if_neg (fun q => h q.1)]
    rw [e]
    refine Ev.ite_neg h (Ev.step (fun n => by rw [spec_JoinWords.j0]) ?_)
    exact Ev.ite_pos rfl (Ev.now _)
theorem ev_impl_JoinWords (a b : List Int) (hla : a.length ≤ 1048576) (hlb : b.length ≤ 1048576) (ha : wfB a = true) (hb : wfB b = true) : Ev (fun n => impl_JoinWords.f n a b) (JoinWordsR a b) := by
  unfold impl_JoinWords.f
  refine Ev.bind (ev_impl_invalid a b ha hb) ?_
  by_cases h : isWordB a = true ∧ isWordB b = true
  · rw [if_pos h]
    refine Ev.ite_pos rfl ?_
    rw [wrap_of (by omega) (by omega)]
    by_cases h3 : 12 < a.length + b.length
    · have e : JoinWordsR a b = ([], 3) := by unfold JoinWordsR; rw [if_pos h, if_pos h3]
      rw [e]
      exact Ev.ite_pos (by omega) (Ev.now _)
    · have e : JoinWordsR a b = (joinL a b, 0) := by unfold JoinWordsR; rw [if_pos h, if_neg h3]
      rw [e]
      exact Ev.ite_neg (by omega) (Ev.bind (ev_impl_join a b hla hlb) (Ev.now _))
  · have e : JoinWordsR a b = ([], 1) := by unfold JoinWordsR; rw [if_neg h]
    rw [e, if_neg h]
    exact Ev.ite_neg (by decide) (Ev.now _)
theorem FnExactJoinWords : laws_FnExactJoinWords.Pure := by
  intro l0 l1 hml0 hsl0 hwl0 hml1 hsl1 hwl1
  have hfl0 : wfB l0 = true := List.all_eq_true.2 hwl0
  have hfl1 : wfB l1 = true := List.all_eq_true.2 hwl1
  refine Ev.rounds ?_
  unfold laws_FnExactJoinWords.f
  by_cases hl0 : l0.length ≤ 1048576
  rotate_left
  · exact Ev.ite_pos (by omega) (Ev.now _)
  by_cases hl1 : l1.length ≤ 1048576
  rotate_left
  · exact Ev.ite_neg (by omega) (Ev.ite_pos (by omega) (Ev.now _))
  have hr := JoinWordsR_le l0 l1 hl0 hl1
  have S := ev_spec_JoinWords l0 l1 hl0 hl1
  have I := ev_impl_JoinWords l0 l1 hl0 hl1 hfl0 hfl1
  have Tl0 := ev_toInt64S l0 (by omega)
  have El0 := ev_eq_same l0 (by omega)
  have Ml0 := ev_markInt64S l0 1 (by omega) (by omega)
  have Tl1 := ev_toInt64S l1 (by omega)
  have El1 := ev_eq_same l1 (by omega)
  have Ml1 := ev_markInt64S l1 1 (by omega) (by omega)
  have ER := ev_eq_same (JoinWordsR l0 l1).1 (by omega)
  have MR := ev_markInt64S (JoinWordsR l0 l1).1 1 (by omega) (by omega)
  have HR := ev_heldInt64S (JoinWordsR l0 l1).1.length 1 (by omega) (by omega)
  have MQ := ev_markInt64S l1 (1 + (l0.length : Int)) (by omega) (by omega)
  repeat (first
    | exact Ev.now _
    | refine Ev.bind Tl0 ?_
    | refine Ev.bind Tl1 ?_
    | refine Ev.bind S ?_
    | refine Ev.bind I ?_
    | refine Ev.bind El0 ?_
    | refine Ev.bind Ml0 ?_
    | refine Ev.bind El1 ?_
    | refine Ev.bind Ml1 ?_
    | refine Ev.bind ER ?_
    | refine Ev.bind MR ?_
    | refine Ev.bind HR ?_
    | refine Ev.bind MQ ?_
    | refine Ev.ite_pos rfl ?_
    | (refine Ev.ite_neg ?_ ?_; focus (first | (simp; done) | (simp; omega) | omega))
    | (apply Ev.step; focus (intro n; first | rw [laws_FnExactJoinWords.j0] | rw [laws_FnExactJoinWords.j1] | rw [laws_FnExactJoinWords.j2])))
end Go.Proofs.Ytaegjapbkkfpdaa.Pure
