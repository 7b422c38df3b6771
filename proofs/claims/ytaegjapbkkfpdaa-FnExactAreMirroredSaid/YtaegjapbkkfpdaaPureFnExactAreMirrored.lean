/-
  The given law laws.FnExactAreMirrored returns true for every two lists: the program's AreMirrored answers as the reference's. No condition.
-/
import Derived.Test.YtaegjapbkkfpdaaEvJ
import Derived.Test.YtaegjapbkkfpdaaGlAreMirrored
namespace Go.Proofs.Ytaegjapbkkfpdaa.Pure
open Go.RowKit Go.Proofs.Ytaegjapbkkfpdaa.G Go.Proofs.Ytaegjapbkkfpdaa.Plain Go.Proofs.YtaegjapbkkfpdaaW.PrintWords Go.Proofs.YtaegjapbkkfpdaaW.PrintLast

/-- What AreMirrored answers. -/
def AreMirroredR (a b : List Int) : Bool × Int := if isWordB a = true ∧ isWordB b = true then (decide (leastL a = leastL (backL b)), 0) else (false, 1)
theorem ev_spec_AreMirrored (a b : List Int) (hla : a.length ≤ 1048576) (hlb : b.length ≤ 1048576) : Ev (fun n => spec_AreMirrored.f n a b) (AreMirroredR a b) := by
  unfold spec_AreMirrored.f
  refine Ev.bind (ev_spec_l01Is a) ?_
  by_cases h : isWordB a = true
  · refine Ev.ite_pos h (Ev.bind (ev_spec_l01Is b) ?_)
    refine Ev.step (fun n => by rw [spec_AreMirrored.j0]) ?_
    by_cases h2 : isWordB b = true
    · have e : AreMirroredR a b = (decide (leastL a = leastL (backL b)), 0) := by unfold AreMirroredR; rw [if_pos ⟨h, h2⟩]
      rw [e, h2]
      exact Ev.ite_neg (by decide) (Ev.bind (ev_spec_l01Least a hla) (Ev.bind (ev_spec_l01Reflect b hlb) (Ev.bind (ev_spec_l01Least _ (by rw [backL_length]; omega)) (Ev.bind (ev_spec_l01Same _ _ (by rw [leastL_length]; omega)) (Ev.now _)))))
    · have e : AreMirroredR a b = (false, 1) := by unfold AreMirroredR; rw [if_neg (fun q => h2 q.2)]
      rw [e]
      exact Ev.ite_pos (by simpa using h2) (Ev.now _)
  · have e : AreMirroredR a b = (false, 1) := by unfold AreMirroredR; rw [if_neg (fun q => h q.1)]
    rw [e]
    refine Ev.ite_neg h (Ev.step (fun n => by rw [spec_AreMirrored.j0]) ?_)
    exact Ev.ite_pos rfl (Ev.now _)
theorem ev_impl_AreMirrored (a b : List Int) (hla : a.length ≤ 1048576) (hlb : b.length ≤ 1048576) (ha : wfB a = true) (hb : wfB b = true) : Ev (fun n => impl_AreMirrored.f n a b) (AreMirroredR a b) := by
  unfold impl_AreMirrored.f
  refine Ev.bind (ev_impl_invalid a b ha hb) ?_
  by_cases h : isWordB a = true ∧ isWordB b = true
  · have e : AreMirroredR a b = (decide (leastL a = leastL (backL b)), 0) := by unfold AreMirroredR; rw [if_pos h]
    rw [e, if_pos h]
    have hk : Ev (fun n => impl_least.f n (backL b)) (leastL (backL b)) := ev_impl_least' (backL b) (normal_idem _) (by rw [backL_length]; omega) (wfB_normal (by rw [List.length_reverse]; omega))
    exact Ev.ite_pos rfl (Ev.bind (ev_impl_least a h.1) (Ev.bind (ev_impl_reflected b hlb hb) (Ev.bind hk (Ev.bind (ev_slices_Equal _ _ (by rw [leastL_length]; omega)) (Ev.now _)))))
  · have e : AreMirroredR a b = (false, 1) := by unfold AreMirroredR; rw [if_neg h]
    rw [e, if_neg h]
    exact Ev.ite_neg (by decide) (Ev.now _)
theorem FnExactAreMirrored : laws_FnExactAreMirrored.Pure := by
  intro l0 l1 hml0 hsl0 hwl0 hml1 hsl1 hwl1
  have hfl0 : wfB l0 = true := List.all_eq_true.2 hwl0
  have hfl1 : wfB l1 = true := List.all_eq_true.2 hwl1
  refine Ev.rounds ?_
  unfold laws_FnExactAreMirrored.f
  by_cases hl0 : l0.length ≤ 1048576
  rotate_left
  · exact Ev.ite_pos (by omega) (Ev.now _)
  by_cases hl1 : l1.length ≤ 1048576
  rotate_left
  · exact Ev.ite_neg (by omega) (Ev.ite_pos (by omega) (Ev.now _))
  have S := ev_spec_AreMirrored l0 l1 hl0 hl1
  have I := ev_impl_AreMirrored l0 l1 hl0 hl1 hfl0 hfl1
  have Tl0 := ev_toInt64S l0 (by omega)
  have El0 := ev_eq_same l0 (by omega)
  have Ml0 := ev_markInt64S l0 1 (by omega) (by omega)
  have Tl1 := ev_toInt64S l1 (by omega)
  have El1 := ev_eq_same l1 (by omega)
  have Ml1 := ev_markInt64S l1 1 (by omega) (by omega)
  have MQ := ev_markInt64S l1 (1 + (l0.length : Int)) (by omega) (by omega)
  repeat (first
    | exact Ev.now _
    | refine Ev.bind Tl0 ?_
    | refine Ev.bind Tl1 ?_
    | refine Ev.bind S ?_
    | refine Ev.bind I ?_
    | refine Ev.bind El0 ?_
    | refine Ev.bind Ml0 ?_
    | refine Ev.bind El1 ?_
    | refine Ev.bind Ml1 ?_
    | refine Ev.bind MQ ?_
    | refine Ev.ite_pos rfl ?_
    | (refine Ev.ite_neg ?_ ?_; focus (first | (simp; done) | (simp; omega) | omega))
    | (apply Ev.step; focus (intro n; first | rw [laws_FnExactAreMirrored.j0])))
end Go.Proofs.Ytaegjapbkkfpdaa.Pure
