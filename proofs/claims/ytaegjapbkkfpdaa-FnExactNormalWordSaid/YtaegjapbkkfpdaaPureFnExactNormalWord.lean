/-
  The given law laws.FnExactNormalWord returns true for every list: the program's NormalWord answers as the reference's. No condition.
-/
import Derived.Test.YtaegjapbkkfpdaaEvW
import Derived.Test.YtaegjapbkkfpdaaG4
namespace Go.Proofs.Ytaegjapbkkfpdaa.Pure
open Go.RowKit Go.Proofs.Ytaegjapbkkfpdaa.G Go.Proofs.Ytaegjapbkkfpdaa.Plain Go.Proofs.YtaegjapbkkfpdaaW.PrintWords Go.Proofs.YtaegjapbkkfpdaaW.PrintLast

/-- What NormalWord answers. -/
def NormalWordR (l : List Int) : List Int × Int := if l.length ≤ 12 then (if twiceB l = true then (normalL l, 0) else ([], 2)) else ([], 2)
theorem ev_spec_NormalWord (l : List Int) : Ev (fun n => spec_NormalWord.f n l) (NormalWordR l) := by
  unfold spec_NormalWord.f NormalWordR
  by_cases h : l.length ≤ 12
  · rw [if_pos h]
    refine Ev.ite_neg (by omega) (Ev.bind (ev_spec_l01Twice l (by omega)) ?_)
    by_cases ht : twiceB l = true
    · rw [if_pos ht]
      exact Ev.ite_pos ht (Ev.bind (ev_spec_l01Normal l (by omega)) (Ev.now _))
    · rw [if_neg ht]
      exact Ev.ite_neg ht (Ev.now _)
  · rw [if_neg h]
    exact Ev.ite_pos (by omega) (Ev.now _)
theorem ev_impl_NormalWord (l : List Int) (hw : wfB l = true) : Ev (fun _ => impl_NormalWord.f l) (NormalWordR l) := by
  by_cases h : l.length ≤ 12
  · by_cases ht : twiceB l = true
    · have e : NormalWordR l = (normalL l, 0) := by unfold NormalWordR; rw [if_pos h, if_pos ht]
      rw [e]
      unfold impl_NormalWord.f
      exact Ev.ite_neg (by omega) (Ev.bind (Ev.const (impl_twice_f hw)) (Ev.ite_pos ht (Ev.bind (Ev.const (impl_normal_f hw (by omega))) (Ev.now _))))
    · have e : NormalWordR l = ([], 2) := by unfold NormalWordR; rw [if_pos h, if_neg ht]
      rw [e]
      unfold impl_NormalWord.f
      exact Ev.ite_neg (by omega) (Ev.bind (Ev.const (impl_twice_f hw)) (Ev.ite_neg ht (Ev.now _)))
  · have e : NormalWordR l = ([], 2) := by unfold NormalWordR; rw [if_neg h]
    rw [e]
    unfold impl_NormalWord.f
    exact Ev.ite_pos (by omega) (Ev.now _)
theorem NormalWordR_le (l : List Int) : (NormalWordR l).1.length ≤ 12 := by
  unfold NormalWordR
  split
  · split
    · simpa [normalL_length]
    · simp
  · simp
theorem FnExactNormalWord : laws_FnExactNormalWord.Pure := by
  intro l hm hl hw
  have hwf : wfB l = true := List.all_eq_true.2 hw
  refine Ev.rounds ?_
  unfold laws_FnExactNormalWord.f
  by_cases h : l.length ≤ 1048576
  · have hr := NormalWordR_le l
    have T := ev_toInt64S l (by omega)
    have E := ev_eq_same l (by omega)
    have I := ev_impl_NormalWord l hwf
    have E2 := ev_eq_same (NormalWordR l).1 (by omega)
    have M := ev_markInt64S l 1 (by omega) (by omega)
    have M2 := ev_markInt64S (NormalWordR l).1 1 (by omega) (by omega)
    have H2 := ev_heldInt64S (NormalWordR l).1.length 1 (by omega) (by omega)
    refine Ev.ite_neg (by omega) (Ev.bind T (Ev.bind (ev_spec_NormalWord l) (Ev.bind T (Ev.bind I (Ev.bind E2 (Ev.ite_pos rfl ?_))))))
    refine Ev.step (fun n => by rw [laws_FnExactNormalWord.j0]) ?_
    refine Ev.ite_neg (by simp) (Ev.bind T (Ev.bind E (Ev.ite_pos rfl (Ev.bind M (Ev.ite_neg (by simp; omega) (Ev.bind E2 (Ev.ite_pos rfl ?_)))))))
    refine Ev.step (fun n => by rw [laws_FnExactNormalWord.j1]) ?_
    refine Ev.ite_neg (by simp) (Ev.bind M2 (Ev.bind H2 (Ev.ite_neg (by omega) (Ev.ite_pos rfl (Ev.bind T (Ev.bind I (Ev.bind E2 (Ev.ite_pos rfl ?_))))))))
    refine Ev.step (fun n => by rw [laws_FnExactNormalWord.j2]) ?_
    exact Ev.ite_neg (by simp) (Ev.bind H2 (Ev.ite_neg (by omega) (Ev.ite_pos rfl (Ev.now _))))
  · exact Ev.ite_pos (by omega) (Ev.now _)
end Go.Proofs.Ytaegjapbkkfpdaa.Pure
