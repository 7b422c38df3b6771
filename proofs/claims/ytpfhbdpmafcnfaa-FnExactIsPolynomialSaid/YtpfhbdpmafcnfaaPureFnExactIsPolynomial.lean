/-
  The given law laws.FnExactIsPolynomial returns true for every list: the program's IsPolynomial answers as the reference's. No condition.
-/
import Derived.Test.YtpfhbdpmafcnfaaEvF
import Derived.Test.YtpfhbdpmafcnfaaGlIsPolynomial
namespace Go.Proofs.Ytpfhbdpmafcnfaa.Pure
open Go.RowKit Go.Proofs.Ytpfhbdpmafcnfaa.G Go.Proofs.YtpfhbdpmafcnfaaW.PrintWords Go.Proofs.YtpfhbdpmafcnfaaW.PrintLast

theorem FnExactIsPolynomial : laws_FnExactIsPolynomial.Pure := by
  intro l0 hm hs hw
  refine Ev.rounds ?_
  unfold laws_FnExactIsPolynomial.f
  by_cases h : l0.length ≤ 1048576
  · have S : Ev (fun n => spec_IsPolynomial.f n l0) (isPolyB l0) := by
      unfold spec_IsPolynomial.f
      exact Ev.bind (ev_spec_l05Poly l0 (by omega)) (Ev.now _)
    have T := ev_toInt64S l0 (by omega)
    refine Ev.ite_neg (by omega) (Ev.bind T (Ev.bind S (Ev.bind T (Ev.bind (ev_impl_IsPolynomial l0 (by omega)) (Ev.ite_neg (by simp) (Ev.bind T (Ev.bind (ev_eq_same l0 (by omega)) (Ev.ite_pos rfl (Ev.now _)))))))))
  · exact Ev.ite_pos (by omega) (Ev.now _)
end Go.Proofs.Ytpfhbdpmafcnfaa.Pure
