/-
  The given law laws.FnExactReflectWord returns true for every list: the program's ReflectWord answers as the reference's. No condition.
-/
import Derived.Test.YtaegjapbkkfpdaaEvS
import Derived.Test.YtaegjapbkkfpdaaGlReflectWord
namespace Go.Proofs.Ytaegjapbkkfpdaa.Pure
open Go.RowKit Go.Proofs.Ytaegjapbkkfpdaa.G Go.Proofs.Ytaegjapbkkfpdaa.Plain Go.Proofs.YtaegjapbkkfpdaaW.PrintWords Go.Proofs.YtaegjapbkkfpdaaW.PrintLast

/-- What ReflectWord answers. -/
def ReflectWordR (w : List Int) : List Int × Int := if isWordB w = true then (backL w, 0) else ([], 1)
theorem ReflectWordR_le (w : List Int) (_ : w.length ≤ 1048576) : (ReflectWordR w).1.length ≤ 12 := by
  unfold ReflectWordR
  split
  · rename_i h
    rw [backL_length]; exact word_length h
  · simp
theorem ev_spec_ReflectWord (w : List Int) (hl : w.length ≤ 1048576) : Ev (fun n => spec_ReflectWord.f n w) (ReflectWordR w) := by
  unfold spec_ReflectWord.f
  refine Ev.bind (ev_spec_l01Is w) ?_
  by_cases h : isWordB w = true
  · have e : ReflectWordR w = (backL w, 0) := by unfold ReflectWordR; rw [if_pos h]
    rw [e]
    exact Ev.ite_pos h (Ev.bind (ev_spec_l01Reflect w hl) (Ev.now _))
  · have e : ReflectWordR w = ([], 1) := by unfold ReflectWordR; rw [if_neg h]
    rw [e]
    exact Ev.ite_neg h (Ev.now _)
theorem ev_impl_ReflectWord (w : List Int) (hl : w.length ≤ 1048576) (hw : wfB w = true) : Ev (fun n => impl_ReflectWord.f n w) (ReflectWordR w) := by
  unfold impl_ReflectWord.f impl_changedWord_at_impl_reflected.f
  by_cases h : isWordB w = true
  · have e : ReflectWordR w = (backL w, 0) := by unfold ReflectWordR; rw [if_pos h]
    rw [e]
    exact Ev.bind (Ev.bind (ev_impl_IsWord w hw) (Ev.ite_pos h (Ev.bind (ev_impl_reflected w hl hw) (Ev.now _)))) (Ev.now _)
  · have e : ReflectWordR w = ([], 1) := by unfold ReflectWordR; rw [if_neg h]
    rw [e]
    exact Ev.bind (Ev.bind (ev_impl_IsWord w hw) (Ev.ite_neg h (Ev.now _))) (Ev.now _)
theorem FnExactReflectWord : laws_FnExactReflectWord.Pure := by
  intro l0 hml0 hsl0 hwl0
  have hfl0 : wfB l0 = true := List.all_eq_true.2 hwl0
  refine Ev.rounds ?_
  unfold laws_FnExactReflectWord.f
  by_cases hl0 : l0.length ≤ 1048576
  rotate_left
  · exact Ev.ite_pos (by omega) (Ev.now _)
  have hr := ReflectWordR_le l0 hl0
  have S := ev_spec_ReflectWord l0 hl0
  have I := ev_impl_ReflectWord l0 hl0 hfl0
  have Tl0 := ev_toInt64S l0 (by omega)
  have El0 := ev_eq_same l0 (by omega)
  have Ml0 := ev_markInt64S l0 1 (by omega) (by omega)
  have ER := ev_eq_same (ReflectWordR l0).1 (by omega)
  have MR := ev_markInt64S (ReflectWordR l0).1 1 (by omega) (by omega)
  have HR := ev_heldInt64S (ReflectWordR l0).1.length 1 (by omega) (by omega)
  repeat (first
    | exact Ev.now _
    | refine Ev.bind Tl0 ?_
    | refine Ev.bind S ?_
    | refine Ev.bind I ?_
    | refine Ev.bind El0 ?_
    | refine Ev.bind Ml0 ?_
    | refine Ev.bind ER ?_
    | refine Ev.bind MR ?_
    | refine Ev.bind HR ?_
    | refine Ev.ite_pos rfl ?_
    | (refine Ev.ite_neg ?_ ?_; focus (first | (simp; done) | (simp; omega) | omega))
    | (apply Ev.step; focus (intro n; first | rw [laws_FnExactReflectWord.j0] | rw [laws_FnExactReflectWord.j1] | rw [laws_FnExactReflectWord.j2])))
end Go.Proofs.Ytaegjapbkkfpdaa.Pure
