/-
  The given law laws.FnExactGaussText returns true for every code: the program's GaussText answers as the reference's.
-/
import Derived.Test.YtckmncebedhgeaaEvK
import Derived.Test.YtckmncebedhgeaaGlGaussText
namespace Go.Proofs.Ytckmncebedhgeaa.Pure
open Go.RowKit Go.Proofs.Ytckmncebedhgeaa.G Go.Proofs.Ytckmncebedhgeaa.Plain Go.Proofs.YtckmncebedhgeaaW.PrintWords Go.Proofs.YtckmncebedhgeaaW.PrintLast
set_option linter.unusedVariables false

def gtextR (w h s : List Int) : ByteArray × Int := if isGaussB w h s = true then (strOfNums (gtF w h s w.length), 0) else ((⟨#[]⟩ : ByteArray), 1)
theorem ev_spec_GaussText (w h s : List Int) (hw : w.length ≤ 1048576) (hs : s.length ≤ 1048576) : Ev (fun n => spec_GaussText.f n w h s) (gtextR w h s) := by
  unfold spec_GaussText.f gtextR
  refine Ev.bind (ev_spec_l07Is w h s hw hs) ?_
  by_cases e : isGaussB w h s = true
  · refine Ev.ite_pos e ?_
    rw [if_pos e]
    exact Ev.bind (ev_spec_l07Text w h s e) (Ev.now _)
  · refine Ev.ite_neg e ?_
    rw [if_neg e]
    exact Ev.now _
theorem ev_impl_GaussText (w h s : List Int) (hf : wfB w = true) (hw : w.length ≤ 1048576) (hh : h.length ≤ 1048576) (hs : s.length ≤ 1048576) : Ev (fun n => impl_GaussText.f n w h s) (gtextR w h s) := by
  unfold impl_GaussText.f gtextR
  refine Ev.bind (ev_impl_IsGauss w h s hf hw hh hs) ?_
  by_cases e : isGaussB w h s = true
  · refine Ev.ite_pos e ?_
    rw [if_pos e]
    exact Ev.bind (Ev.const (impl_gaussText_f w h s e)) (Ev.now _)
  · refine Ev.ite_neg e ?_
    rw [if_neg e]
    exact Ev.now _
theorem FnExactGaussText (l0 l1 l2 : List Int) (hm0 : l0.length ≤ maxLen) (hm1 : l1.length ≤ maxLen) (hm2 : l2.length ≤ maxLen) (hw0 : ∀ x ∈ l0, (Lit.int .i64 x).wf = true) (hw1 : ∀ x ∈ l1, (Lit.int .i64 x).wf = true) (hw2 : ∀ x ∈ l2, (Lit.int .i64 x).wf = true) :
    ∃ k, laws_FnExactGaussText.f k l0 l1 l2 = some true := by
  refine Ev.rounds ?_
  unfold laws_FnExactGaussText.f
  obtain ⟨r, er, hr⟩ := szGauss_f l0 l1 l2 hm0 hm1 hm2
  refine Ev.bind (Ev.const er) ?_
  rcases hr with hr | ⟨hr, hl⟩
  · exact Ev.ite_pos hr (Ev.now _)
  · have hf : wfB l0 = true := List.all_eq_true.2 hw0
    have T := ev_toGauss l0 l1 l2 (by omega) (by omega) (by omega)
    have S := ev_spec_GaussText l0 l1 l2 (by omega) (by omega)
    have I := ev_impl_GaussText l0 l1 l2 hf (by omega) (by omega) (by omega)
    have E := ev_eqGauss_same l0 l1 l2 (by omega) (by omega) (by omega)
    refine Ev.ite_neg (by omega) (Ev.bind T (Ev.bind S (Ev.bind T (Ev.bind I (Ev.ite_pos rfl ?_)))))
    refine Ev.step (fun n => by rw [laws_FnExactGaussText.j0]) ?_
    exact Ev.ite_neg (by simp) (Ev.bind T (Ev.bind E (Ev.ite_pos rfl (Ev.now _))))
end Go.Proofs.Ytckmncebedhgeaa.Pure
