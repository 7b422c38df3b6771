/-
  The given law laws.FnExactIsSum returns true for every sum: the program's IsSum answers as the reference's.
-/
import Derived.Test.YtpfhbdpmafcnfaaEvU
import Derived.Test.YtpfhbdpmafcnfaaGlIsSum
namespace Go.Proofs.Ytpfhbdpmafcnfaa.Pure
open Go.RowKit Go.Proofs.Ytpfhbdpmafcnfaa.G Go.Proofs.Ytpfhbdpmafcnfaa.Plain Go.Proofs.YtpfhbdpmafcnfaaW.PrintWords Go.Proofs.YtpfhbdpmafcnfaaW.PrintLast
set_option linter.unusedVariables false

theorem FnExactIsSum (a : Int) (xs : List S110) (hn : xs.length ≤ 9223372036854775807) (ha : (Lit.int .i64 a).wf = true) (hg : ∀ y ∈ xs, y.f0.length ≤ maxLen ∧ (∀ n ∈ y.f0, (Lit.int .i64 n).wf = true) ∧ (Lit.int .i64 y.f1).wf = true) :
    ∃ k, laws_FnExactIsSum.f k a xs = some true := by
  refine Ev.rounds ?_
  unfold laws_FnExactIsSum.f
  obtain ⟨r, er, hr⟩ := szSum_ev a xs hn (fun x hx => (hg x hx).1)
  refine Ev.bind er ?_
  rcases hr with hr | ⟨hr, hl, hz⟩
  · exact Ev.ite_pos hr (Ev.now _)
  · have hc : ∀ y ∈ xs.map conv, y.f0.length ≤ 1048576 ∧ wfB y.f0 = true := by
      intro y hy
      obtain ⟨x, hx, rfl⟩ := List.mem_map.1 hy
      exact ⟨hz x hx, List.all_eq_true.2 (hg x hx).2.1⟩
    have hcl : (xs.map conv).length ≤ 1048576 := by rw [List.length_map]; exact hl
    have T := ev_toSum a xs hl hz
    have S := ev_spec_IsSum a (xs.map conv) hcl (fun y hy => (hc y hy).1)
    have I := ev_impl_IsSum a (xs.map conv) hcl hc
    have E := ev_eqSum_same a (xs.map conv) hcl (fun y hy => (hc y hy).1)
    refine Ev.ite_neg (by omega) (Ev.bind T (Ev.bind S (Ev.bind T (Ev.bind I (Ev.ite_neg (by simp) (Ev.bind T (Ev.bind E (Ev.ite_pos rfl (Ev.now _)))))))))
end Go.Proofs.Ytpfhbdpmafcnfaa.Pure
