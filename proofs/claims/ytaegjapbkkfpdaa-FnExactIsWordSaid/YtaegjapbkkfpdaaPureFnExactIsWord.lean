/-
  The given law laws.FnExactIsWord returns true for every list: the program's IsWord answers as the reference's. No condition.
-/
import Derived.Test.YtaegjapbkkfpdaaEvW
import Derived.Test.YtaegjapbkkfpdaaG3
namespace Go.Proofs.Ytaegjapbkkfpdaa.Pure
open Go.RowKit Go.Proofs.Ytaegjapbkkfpdaa.G Go.Proofs.Ytaegjapbkkfpdaa.Plain Go.Proofs.YtaegjapbkkfpdaaW.PrintWords Go.Proofs.YtaegjapbkkfpdaaW.PrintLast

theorem FnExactIsWord : laws_FnExactIsWord.Pure := by
  intro l hm hl hw
  have hwf : wfB l = true := List.all_eq_true.2 hw
  refine Ev.rounds ?_
  unfold laws_FnExactIsWord.f
  by_cases h : l.length ≤ 1048576
  · refine Ev.ite_neg (by omega) (Ev.bind (ev_toInt64S l (by omega)) (Ev.bind (a := isWordB l) ?_ (Ev.bind (ev_toInt64S l (by omega)) (Ev.bind (ev_impl_IsWord l hwf) (Ev.ite_neg (by simp) (Ev.bind (ev_toInt64S l (by omega)) (Ev.bind (ev_eq_same l (by omega)) (Ev.ite_pos rfl (Ev.now _)))))))))
    unfold spec_IsWord.f
    exact Ev.bind (ev_spec_l01Is l) (Ev.now _)
  · exact Ev.ite_pos (by omega) (Ev.now _)
end Go.Proofs.Ytaegjapbkkfpdaa.Pure
