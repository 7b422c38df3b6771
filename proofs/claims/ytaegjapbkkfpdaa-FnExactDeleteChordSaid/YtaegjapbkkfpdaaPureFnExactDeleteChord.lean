/-
  The given law laws.FnExactDeleteChord returns true for every list and number: the program's DeleteChord answers as the reference's. No condition.
-/
import Derived.Test.YtaegjapbkkfpdaaEvD
import Derived.Test.YtaegjapbkkfpdaaGlDeleteChord
namespace Go.Proofs.Ytaegjapbkkfpdaa.Pure
open Go.RowKit Go.Proofs.Ytaegjapbkkfpdaa.G Go.Proofs.Ytaegjapbkkfpdaa.Plain Go.Proofs.YtaegjapbkkfpdaaW.PrintWords Go.Proofs.YtaegjapbkkfpdaaW.PrintLast

/-- What DeleteChord answers. -/
def DeleteChordR (w : List Int) (i : Int) : List Int × Int := if isWordB w = true then (if 0 ≤ i ∧ i ≤ ((w.length / 2 : Nat) : Int) - 1 then (normalL (w.filter fun x => x != i), 0) else ([], 2)) else ([], 1)
theorem ev_spec_DeleteChord (w : List Int) (i : Int) (hl : w.length ≤ 1048576) : Ev (fun n => spec_DeleteChord.f n w i) (DeleteChordR w i) := by
  unfold spec_DeleteChord.f
  rw [half_wrap (by omega), wrap_of (by omega) (by omega)]
  refine Ev.bind (ev_spec_l01Code w i _) ?_
  unfold DeleteChordR codeL
  by_cases h : isWordB w = true
  · by_cases h2 : 0 ≤ i ∧ i ≤ ((w.length / 2 : Nat) : Int) - 1
    · rw [if_pos h, if_pos h2, if_pos h, if_pos h2]
      exact Ev.ite_pos rfl (Ev.bind (ev_spec_l01Delete w i hl) (Ev.now _))
    · rw [if_pos h, if_neg h2, if_pos h, if_neg h2]
      exact Ev.ite_neg (by decide) (Ev.now _)
  · rw [if_neg h, if_neg h]
    exact Ev.ite_neg (by decide) (Ev.now _)
theorem ev_impl_DeleteChord (w : List Int) (i : Int) (hl : w.length ≤ 1048576) (hw : wfB w = true) : Ev (fun n => impl_DeleteChord.f n w i) (DeleteChordR w i) := by
  unfold impl_DeleteChord.f
  refine Ev.bind (ev_impl_IsWord w hw) ?_
  unfold DeleteChordR
  by_cases h : isWordB w = true
  · refine Ev.ite_pos h (Ev.bind (Ev.const (impl_isChord_f (by omega) i)) ?_)
    rw [if_pos h]
    by_cases h2 : 0 ≤ i ∧ i ≤ ((w.length / 2 : Nat) : Int) - 1
    · rw [if_pos h2]
      refine Ev.ite_pos (decide_eq_true h2) (Ev.bind (Ev.const (r := normalL (w.filter fun x => x != i)) ?_) (Ev.now _))
      unfold impl_without.f
      rw [if_pos ⟨hw, hl⟩]
    · rw [if_neg h2]
      exact Ev.ite_neg (by simpa using h2) (Ev.now _)
  · refine Ev.ite_neg h ?_
    rw [if_neg h]
    exact Ev.now _
theorem DeleteChordR_le (w : List Int) (i : Int) (_ : w.length ≤ 1048576) : (DeleteChordR w i).1.length ≤ 12 := by
  unfold DeleteChordR
  split
  · rename_i h
    split
    · exact filter_le12 h _
    · simp
  · simp
theorem FnExactDeleteChord : laws_FnExactDeleteChord.Pure := by
  intro l0 i1 hml0 hsl0 hwl0 hsi1
  have hfl0 : wfB l0 = true := List.all_eq_true.2 hwl0
  refine Ev.rounds ?_
  unfold laws_FnExactDeleteChord.f
  by_cases hl0 : l0.length ≤ 1048576
  rotate_left
  · exact Ev.ite_pos (by omega) (Ev.now _)
  have hr := DeleteChordR_le l0 i1 hl0
  have S := ev_spec_DeleteChord l0 i1 hl0
  have I := ev_impl_DeleteChord l0 i1 hl0 hfl0
  have Tl0 := ev_toInt64S l0 (by omega)
  have El0 := ev_eq_same l0 (by omega)
  have Ml0 := ev_markInt64S l0 1 (by omega) (by omega)
  have ER := ev_eq_same (DeleteChordR l0 i1).1 (by omega)
  have MR := ev_markInt64S (DeleteChordR l0 i1).1 1 (by omega) (by omega)
  have HR := ev_heldInt64S (DeleteChordR l0 i1).1.length 1 (by omega) (by omega)
  repeat (first
    | exact Ev.now _
    | refine Ev.bind Tl0 ?_
    | refine Ev.bind S ?_
    | refine Ev.bind I ?_
    | refine Ev.bind El0 ?_
    | refine Ev.bind Ml0 ?_
    | refine Ev.bind ER ?_
    | refine Ev.bind MR ?_
    | refine Ev.bind HR ?_
    | refine Ev.ite_pos rfl ?_
    | (refine Ev.ite_neg ?_ ?_; focus (first | (simp; done) | (simp; omega) | omega))
    | (apply Ev.step; focus (intro n; first | rw [laws_FnExactDeleteChord.j0] | rw [laws_FnExactDeleteChord.j1] | rw [laws_FnExactDeleteChord.j2])))
end Go.Proofs.Ytaegjapbkkfpdaa.Pure
