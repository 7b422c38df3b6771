/-
  The given law laws.FnExactWritheOf returns true for every code: the program's WritheOf answers as the reference's.
-/
import Derived.Test.YtckmncebedhgeaaEvH
import Derived.Test.YtckmncebedhgeaaGlWritheOf
namespace Go.Proofs.Ytckmncebedhgeaa.Pure
open Go.RowKit Go.Proofs.Ytckmncebedhgeaa.G Go.Proofs.Ytckmncebedhgeaa.Plain Go.Proofs.YtckmncebedhgeaaW.PrintWords Go.Proofs.YtckmncebedhgeaaW.PrintLast
set_option linter.unusedVariables false

def sumW (l : List Int) (a : Int) : Int := l.foldl (fun a x => wrap64 (a + x)) a
theorem writhe_spec (w h s : List Int) (hs : s.length ≤ 9223372036854775806) : ∀ (d k : Nat) (a : Int), k ≤ s.length → s.length - k = d → Ev (fun n => spec_WritheOf.l0 n a k w h s) (sumW (s.drop k) a, 0) := by
  intro d
  induction d with
  | zero =>
    intro k a hk hd
    refine Ev.step (fun n => by rw [spec_WritheOf.l0]) ?_
    refine Ev.ite_neg (by omega) ?_
    rw [List.drop_of_length_le (by omega)]
    exact Ev.now _
  | succ d ih =>
    intro k a hk hd
    have h1 : k < s.length := by omega
    refine Ev.step (fun n => by rw [spec_WritheOf.l0]) ?_
    refine Ev.ite_pos (by omega) (Ev.ite_pos (by omega) ?_)
    rw [rd_at h1, wrap_of (x := (k : Int) + 1) (by omega) (by omega), List.drop_eq_getElem_cons h1]
    exact ih (k + 1) _ (by omega) (by omega)
theorem writhe_impl (s : List Int) (hs : s.length ≤ 9223372036854775806) : ∀ (d k : Nat) (a : Int), k ≤ s.length → s.length - k = d → Ev (fun n => impl_WritheOf.l0 n a s (s.length : Int) k) (sumW (s.drop k) a, 0) := by
  intro d
  induction d with
  | zero =>
    intro k a hk hd
    refine Ev.step (fun n => by rw [impl_WritheOf.l0]) ?_
    refine Ev.ite_neg (by omega) ?_
    rw [List.drop_of_length_le (by omega)]
    exact Ev.now _
  | succ d ih =>
    intro k a hk hd
    have h1 : k < s.length := by omega
    refine Ev.step (fun n => by rw [impl_WritheOf.l0]) ?_
    refine Ev.ite_pos (by omega) (Ev.ite_pos (by omega) (Ev.ite_pos (by omega) ?_))
    rw [rd_at h1, wrap_of (x := (k : Int) + 1) (by omega) (by omega), List.drop_eq_getElem_cons h1]
    exact ih (k + 1) _ (by omega) (by omega)
def writheR (w h s : List Int) : Int × Int := if isGaussB w h s = true then (sumW s 0, 0) else (0, 1)
theorem ev_spec_WritheOf (w h s : List Int) (hw : w.length ≤ 1048576) (hs : s.length ≤ 1048576) : Ev (fun n => spec_WritheOf.f n w h s) (writheR w h s) := by
  unfold spec_WritheOf.f writheR
  refine Ev.bind (ev_spec_l07Is w h s hw hs) ?_
  by_cases e : isGaussB w h s = true
  · refine Ev.ite_pos e ?_
    rw [if_pos e]
    have := writhe_spec w h s (by omega) s.length 0 0 (by omega) (by omega)
    simpa using this
  · refine Ev.ite_neg e ?_
    rw [if_neg e]
    exact Ev.now _
theorem ev_impl_WritheOf (w h s : List Int) (hf : wfB w = true) (hw : w.length ≤ 1048576) (hh : h.length ≤ 1048576) (hs : s.length ≤ 1048576) : Ev (fun n => impl_WritheOf.f n w h s) (writheR w h s) := by
  unfold impl_WritheOf.f writheR
  refine Ev.bind (ev_impl_IsGauss w h s hf hw hh hs) ?_
  by_cases e : isGaussB w h s = true
  · refine Ev.ite_pos e ?_
    rw [if_pos e]
    have := writhe_impl s (by omega) s.length 0 0 (by omega) (by omega)
    simpa using this
  · refine Ev.ite_neg e ?_
    rw [if_neg e]
    exact Ev.now _
theorem FnExactWritheOf (l0 l1 l2 : List Int) (hm0 : l0.length ≤ maxLen) (hm1 : l1.length ≤ maxLen) (hm2 : l2.length ≤ maxLen) (hw0 : ∀ x ∈ l0, (Lit.int .i64 x).wf = true) (hw1 : ∀ x ∈ l1, (Lit.int .i64 x).wf = true) (hw2 : ∀ x ∈ l2, (Lit.int .i64 x).wf = true) :
    ∃ k, laws_FnExactWritheOf.f k l0 l1 l2 = some true := by
  refine Ev.rounds ?_
  unfold laws_FnExactWritheOf.f
  obtain ⟨r, er, hr⟩ := szGauss_f l0 l1 l2 hm0 hm1 hm2
  refine Ev.bind (Ev.const er) ?_
  rcases hr with hr | ⟨hr, hl⟩
  · exact Ev.ite_pos hr (Ev.now _)
  · have hf : wfB l0 = true := List.all_eq_true.2 hw0
    have T := ev_toGauss l0 l1 l2 (by omega) (by omega) (by omega)
    have S := ev_spec_WritheOf l0 l1 l2 (by omega) (by omega)
    have I := ev_impl_WritheOf l0 l1 l2 hf (by omega) (by omega) (by omega)
    have E := ev_eqGauss_same l0 l1 l2 (by omega) (by omega) (by omega)
    refine Ev.ite_neg (by omega) (Ev.bind T (Ev.bind S (Ev.bind T (Ev.bind I (Ev.ite_pos rfl ?_)))))
    refine Ev.step (fun n => by rw [laws_FnExactWritheOf.j0]) ?_
    exact Ev.ite_neg (by simp) (Ev.bind T (Ev.bind E (Ev.ite_pos rfl (Ev.now _))))
end Go.Proofs.Ytckmncebedhgeaa.Pure
