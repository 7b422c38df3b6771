/-
  The facts that the walk of laws.FnExactWebOfWord is told: the program's WebOfWord answers as the reference's, for every list.
-/
import Derived.Test.YtckmncebedhgeaaEvW
import Derived.Test.YtckmncebedhgeaaEvM
import Derived.Test.YtckmncebedhgeaaGgV
import Derived.Test.YtckmncebedhgeaaGlWebOfWord
namespace Go.Proofs.Ytckmncebedhgeaa.Pure
open Go.RowKit Go.Proofs.Ytckmncebedhgeaa.G Go.Proofs.Ytckmncebedhgeaa.Plain Go.Proofs.YtckmncebedhgeaaW.PrintWords Go.Proofs.YtckmncebedhgeaaW.PrintLast
set_option linter.unusedVariables false

/-- What WebOfWord answers. -/
def webR (w : List Int) : List Int × List (List Int) × Int := if isWordB w = true then (if w.length > 8 then ([], [], 3) else (w, [], 0)) else ([], [], 1)
theorem ev_spec_WebOfWord (w : List Int) (hl : w.length ≤ 1048576) : Ev (fun n => spec_WebOfWord.f n w) (webR w) := by
  unfold spec_WebOfWord.f webR
  refine Ev.bind (ev_spec_l01Is w) ?_
  by_cases e : isWordB w = true
  · refine Ev.ite_pos e ?_
    rw [if_pos e]
    by_cases c : w.length > 8
    · rw [if_pos c]
      exact Ev.ite_pos (by omega) (Ev.now _)
    · rw [if_neg c]
      refine Ev.ite_neg (by omega) ?_
      have o : spec_l01Own.f w = some w := by
        unfold spec_l01Own.f
        rw [Option.bind_some, if_pos (by simp; omega), List.nil_append]
      exact Ev.bind (Ev.const o) (Ev.now _)
  · refine Ev.ite_neg e ?_
    rw [if_neg e]
    exact Ev.now _
theorem ev_impl_WebOfWord (w : List Int) (hl : w.length ≤ 1048576) (hf : wfB w = true) : Ev (fun n => impl_WebOfWord.f n w) (webR w) := by
  unfold impl_WebOfWord.f webR
  refine Ev.bind (ev_impl_IsWord w hf) ?_
  by_cases e : isWordB w = true
  · refine Ev.ite_pos e ?_
    rw [if_pos e]
    have hv := word_even e
    have ch : impl_chords.f w = some ((w.length / 2 : Nat) : Int) := by
      unfold impl_chords.f
      rw [wrap_of (by omega) (by omega)]
      congr 1
    refine Ev.bind (Ev.const ch) ?_
    by_cases c : w.length > 8
    · rw [if_pos c]
      exact Ev.ite_pos (by omega) (Ev.now _)
    · rw [if_neg c]
      refine Ev.ite_neg (by omega) ?_
      have o : slices_Clone_int64_int64.f w = some w := by unfold slices_Clone_int64_int64.f; rw [if_pos (by omega)]
      exact Ev.bind (Ev.const o) (Ev.now _)
  · refine Ev.ite_neg e ?_
    rw [if_neg e]
    exact Ev.now _
theorem webR_le (w : List Int) (hl : w.length ≤ 1048576) : (webR w).1.length ≤ 1048576 ∧ (webR w).2.1 = [] := by
  unfold webR
  split
  · split
    · simp
    · exact ⟨hl, rfl⟩
  · simp
theorem ev_eqWeb_same (g : List Int) (hl : g.length ≤ 1048576) : Ev (fun n => laws_eqWeb.f n g [] g []) true := by
  unfold laws_eqWeb.f laws_eqInt64SS.f
  refine Ev.bind (ev_eq_same g (by omega)) (Ev.ite_pos rfl ?_)
  have e : Ev (fun n => if ((([] : List (List Int)).length : Int)) = ((([] : List (List Int)).length : Int)) then laws_eqInt64SS.l0 n [] [] 0 else some false) true := by
    refine Ev.ite_pos rfl (Ev.step (fun n => by rw [laws_eqInt64SS.l0]) ?_)
    exact Ev.ite_neg (by simp) (Ev.now _)
  first
  | exact Ev.bind e (Ev.ite_pos rfl (Ev.now _))
  | exact Ev.bind (by simpa using e) (Ev.ite_pos rfl (Ev.now _))
theorem ev_markWeb (g : List Int) (hl : g.length ≤ 1048576) : Ev (fun n => laws_markWeb.f n g [] 1) (1 + (g.length : Int), marks 1 g.length, []) := by
  unfold laws_markWeb.f
  refine Ev.bind (ev_markInt64S g 1 (by omega) (by omega)) ?_
  have e : Ev (fun n => laws_markInt64SS.f n [] (1 + (g.length : Int))) (1 + (g.length : Int), []) := by
    unfold laws_markInt64SS.f
    refine Ev.step (fun n => by rw [laws_markInt64SS.l0]) ?_
    exact Ev.ite_neg (by simp) (Ev.now _)
  exact Ev.bind e (Ev.now _)
theorem ev_heldWeb (m : Nat) (hl : m ≤ 1048576) : Ev (fun n => laws_heldWeb.f n (marks 1 m) [] 1) (1 + (m : Int)) := by
  unfold laws_heldWeb.f
  refine Ev.bind (ev_heldInt64S m 1 (by omega) (by omega)) (Ev.ite_neg (by omega) ?_)
  have e : Ev (fun n => laws_heldInt64SS.f n [] (1 + (m : Int))) (1 + (m : Int)) := by
    unfold laws_heldInt64SS.f
    refine Ev.step (fun n => by rw [laws_heldInt64SS.l0]) ?_
    exact Ev.ite_neg (by simp) (Ev.now _)
  exact Ev.bind e (Ev.ite_neg (by omega) (Ev.now _))
theorem FnExactWebOfWord : laws_FnExactWebOfWord.Pure := by
  intro l0 hm hs hw hl
  have hf : wfB l0 = true := List.all_eq_true.2 hw
  obtain ⟨b1, b2⟩ := webR_le l0 hl
  have h2' := ev_spec_WebOfWord l0 hl
  have h3' := ev_impl_WebOfWord l0 hl hf
  generalize webR l0 = R at b1 b2 h2' h3'
  obtain ⟨g0, g1, c⟩ := R
  obtain rfl : g1 = [] := b2
  obtain ⟨K1, h1⟩ := ev_toInt64S l0 (by omega)
  obtain ⟨K2, h2⟩ := h2'
  obtain ⟨K3, h3⟩ := h3'
  obtain ⟨K4, h4⟩ := ev_eqWeb_same g0 b1
  obtain ⟨K5, h5⟩ := ev_eq_same l0 (by omega)
  obtain ⟨K6, h6⟩ := ev_markInt64S l0 1 (by omega) (by omega)
  obtain ⟨K7, h7⟩ := ev_markWeb g0 b1
  obtain ⟨K8, h8⟩ := ev_heldWeb g0.length b1
  exact ⟨max K1 (max K2 (max K3 (max K4 (max K5 (max K6 (max K7 K8)))))), c, _, g0, [], _, [], _, _, h1 _ (by omega), h5 _ (by omega), h2 _ (by omega), h3 _ (by omega), h4 _ (by omega), h6 _ (by omega), h7 _ (by omega), h8 _ (by omega), by omega, by omega⟩
end Go.Proofs.Ytckmncebedhgeaa.Pure
