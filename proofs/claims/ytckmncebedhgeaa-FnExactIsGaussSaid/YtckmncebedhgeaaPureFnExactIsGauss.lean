/-
  The given law laws.FnExactIsGauss returns true for every code: the program's IsGauss answers as the reference's.
-/
import Derived.Test.YtckmncebedhgeaaEvH
import Derived.Test.YtckmncebedhgeaaGlIsGauss
namespace Go.Proofs.Ytckmncebedhgeaa.Pure
open Go.RowKit Go.Proofs.Ytckmncebedhgeaa.G Go.Proofs.Ytckmncebedhgeaa.Plain Go.Proofs.YtckmncebedhgeaaW.PrintWords Go.Proofs.YtckmncebedhgeaaW.PrintLast
set_option linter.unusedVariables false

theorem FnExactIsGauss (l0 l1 l2 : List Int) (hm0 : l0.length ≤ maxLen) (hm1 : l1.length ≤ maxLen) (hm2 : l2.length ≤ maxLen) (hw0 : ∀ x ∈ l0, (Lit.int .i64 x).wf = true) (hw1 : ∀ x ∈ l1, (Lit.int .i64 x).wf = true) (hw2 : ∀ x ∈ l2, (Lit.int .i64 x).wf = true) :
    ∃ k, laws_FnExactIsGauss.f k l0 l1 l2 = some true := by
  refine Ev.rounds ?_
  unfold laws_FnExactIsGauss.f
  obtain ⟨r, er, hr⟩ := szGauss_f l0 l1 l2 hm0 hm1 hm2
  refine Ev.bind (Ev.const er) ?_
  rcases hr with hr | ⟨hr, hl⟩
  · exact Ev.ite_pos hr (Ev.now _)
  · have hf : wfB l0 = true := List.all_eq_true.2 hw0
    have T := ev_toGauss l0 l1 l2 (by omega) (by omega) (by omega)
    have S := ev_spec_IsGauss l0 l1 l2 (by omega) (by omega)
    have I := ev_impl_IsGauss l0 l1 l2 hf (by omega) (by omega) (by omega)
    have E := ev_eqGauss_same l0 l1 l2 (by omega) (by omega) (by omega)
    refine Ev.ite_neg (by omega) (Ev.bind T (Ev.bind S (Ev.bind T (Ev.bind I (Ev.ite_neg (by simp) (Ev.bind T (Ev.bind E (Ev.ite_pos rfl (Ev.now _)))))))))
end Go.Proofs.Ytckmncebedhgeaa.Pure
