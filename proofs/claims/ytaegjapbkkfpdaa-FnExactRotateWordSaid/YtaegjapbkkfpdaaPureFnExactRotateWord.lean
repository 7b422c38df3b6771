/-
  The given law laws.FnExactRotateWord returns true for every list and number: the program's RotateWord answers as the reference's. No condition.
-/
import Derived.Test.YtaegjapbkkfpdaaEvR
import Derived.Test.YtaegjapbkkfpdaaGlRotateWord
namespace Go.Proofs.Ytaegjapbkkfpdaa.Pure
open Go.RowKit Go.Proofs.Ytaegjapbkkfpdaa.G Go.Proofs.Ytaegjapbkkfpdaa.Plain Go.Proofs.YtaegjapbkkfpdaaW.PrintWords Go.Proofs.YtaegjapbkkfpdaaW.PrintLast

/-- What RotateWord answers. -/
def RotateWordR (w : List Int) (k : Int) : List Int × Int := if isWordB w = true then (if 0 ≤ k ∧ k ≤ (w.length : Int) then (rotL w k.toNat, 0) else ([], 2)) else ([], 1)
theorem RotateWordR_le (w : List Int) (k : Int) (_ : w.length ≤ 1048576) : (RotateWordR w k).1.length ≤ 12 := by
  unfold RotateWordR
  split
  · rename_i h
    split
    · rw [rotL_length]; exact word_length h
    · simp
  · simp
theorem ev_spec_RotateWord (w : List Int) (k : Int) (hl : w.length ≤ 1048576) : Ev (fun n => spec_RotateWord.f n w k) (RotateWordR w k) := by
  unfold spec_RotateWord.f
  refine Ev.bind (ev_spec_l01Code w k _) ?_
  by_cases h : isWordB w = true
  · by_cases h2 : 0 ≤ k ∧ k ≤ (w.length : Int)
    · have e : codeL w k (w.length : Int) = 0 := by unfold codeL; rw [if_pos h, if_pos h2]
      have e2 : RotateWordR w k = (rotL w k.toNat, 0) := by unfold RotateWordR; rw [if_pos h, if_pos h2]
      obtain ⟨j, rfl⟩ : ∃ j : Nat, k = j := ⟨k.toNat, by omega⟩
      rw [e, e2]
      exact Ev.ite_pos rfl (Ev.bind (ev_spec_l01Rotate w j (by omega) hl) (Ev.now _))
    · have e : codeL w k (w.length : Int) = 2 := by unfold codeL; rw [if_pos h, if_neg h2]
      have e2 : RotateWordR w k = ([], 2) := by unfold RotateWordR; rw [if_pos h, if_neg h2]
      rw [e, e2]
      exact Ev.ite_neg (by decide) (Ev.now _)
  · have e : codeL w k (w.length : Int) = 1 := by unfold codeL; rw [if_neg h]
    have e2 : RotateWordR w k = ([], 1) := by unfold RotateWordR; rw [if_neg h]
    rw [e, e2]
    exact Ev.ite_neg (by decide) (Ev.now _)
theorem ev_impl_RotateWord (w : List Int) (k : Int) (hl : w.length ≤ 1048576) (hw : wfB w = true) : Ev (fun n => impl_RotateWord.f n w k) (RotateWordR w k) := by
  unfold impl_RotateWord.f
  refine Ev.bind (ev_impl_IsWord w hw) ?_
  by_cases h : isWordB w = true
  · refine Ev.ite_pos h (Ev.bind (Ev.const (impl_in_f k 0 _)) ?_)
    by_cases h2 : 0 ≤ k ∧ k ≤ (w.length : Int)
    · have e2 : RotateWordR w k = (rotL w k.toNat, 0) := by unfold RotateWordR; rw [if_pos h, if_pos h2]
      obtain ⟨j, rfl⟩ : ∃ j : Nat, k = j := ⟨k.toNat, by omega⟩
      rw [e2]
      exact Ev.ite_pos (decide_eq_true h2) (Ev.bind (Ev.const (impl_rotated_f w j (by omega) hl hw)) (Ev.now _))
    · have e2 : RotateWordR w k = ([], 2) := by unfold RotateWordR; rw [if_pos h, if_neg h2]
      rw [e2]
      exact Ev.ite_neg (by simpa using h2) (Ev.now _)
  · have e2 : RotateWordR w k = ([], 1) := by unfold RotateWordR; rw [if_neg h]
    rw [e2]
    exact Ev.ite_neg h (Ev.now _)
theorem FnExactRotateWord : laws_FnExactRotateWord.Pure := by
  intro l0 i1 hml0 hsl0 hwl0 hsi1
  have hfl0 : wfB l0 = true := List.all_eq_true.2 hwl0
  refine Ev.rounds ?_
  unfold laws_FnExactRotateWord.f
  by_cases hl0 : l0.length ≤ 1048576
  rotate_left
  · exact Ev.ite_pos (by omega) (Ev.now _)
  have hr := RotateWordR_le l0 i1 hl0
  have S := ev_spec_RotateWord l0 i1 hl0
  have I := ev_impl_RotateWord l0 i1 hl0 hfl0
  have Tl0 := ev_toInt64S l0 (by omega)
  have El0 := ev_eq_same l0 (by omega)
  have Ml0 := ev_markInt64S l0 1 (by omega) (by omega)
  have ER := ev_eq_same (RotateWordR l0 i1).1 (by omega)
  have MR := ev_markInt64S (RotateWordR l0 i1).1 1 (by omega) (by omega)
  have HR := ev_heldInt64S (RotateWordR l0 i1).1.length 1 (by omega) (by omega)
  repeat (first
    | exact Ev.now _
    | refine Ev.bind Tl0 ?_
    | refine Ev.bind S ?_
    | refine Ev.bind I ?_
    | refine Ev.bind El0 ?_
    | refine Ev.bind Ml0 ?_
    | refine Ev.bind ER ?_
    | refine Ev.bind MR ?_
    | refine Ev.bind HR ?_
    | refine Ev.ite_pos rfl ?_
    | (refine Ev.ite_neg ?_ ?_; focus (first | (simp; done) | (simp; omega) | omega))
    | (apply Ev.step; focus (intro n; first | rw [laws_FnExactRotateWord.j0] | rw [laws_FnExactRotateWord.j1] | rw [laws_FnExactRotateWord.j2])))
end Go.Proofs.Ytaegjapbkkfpdaa.Pure
