/-
  The given law laws.FnExactIsolatedChords returns true for every list: the program's IsolatedChords answers as the reference's. No condition.
-/
import Derived.Test.YtckmncebedhgeaaEvG
import Derived.Test.YtckmncebedhgeaaGlIsolatedChords
namespace Go.Proofs.Ytckmncebedhgeaa.Pure
open Go.RowKit Go.Proofs.Ytckmncebedhgeaa.G Go.Proofs.Ytckmncebedhgeaa.Plain Go.Proofs.YtckmncebedhgeaaW.PrintWords Go.Proofs.YtckmncebedhgeaaW.PrintLast

/-- The places below k at which a list holds 0. -/
def zeroAt (l : List Int) : Nat → List Int
  | 0 => []
  | k + 1 => zeroAt l k ++ if l[k]? = some 0 then [(k : Int)] else []
theorem zeroAt_le (l : List Int) : ∀ k, (zeroAt l k).length ≤ k
  | 0 => Nat.le_refl _
  | k + 1 => by
    have := zeroAt_le l k
    unfold zeroAt
    rw [List.length_append]
    split <;> simp <;> omega
/-- What IsolatedChords answers. -/
def IsolatedChordsR (w : List Int) : List Int × Int := if isWordB w = true then (zeroAt (degreesL w) (w.length / 2), 0) else ([], 1)
theorem spec_iso_loop (l : List Int) (hl : l.length ≤ 12) : ∀ (d k : Nat), k ≤ l.length → l.length - k = d → Ev (fun n => spec_IsolatedChords.l0 n l (zeroAt l k) k) (zeroAt l l.length, 0) := by
  intro d
  induction d with
  | zero =>
    intro k hk hd
    obtain rfl : k = l.length := by omega
    refine Ev.step (fun n => by rw [spec_IsolatedChords.l0]) ?_
    exact Ev.ite_neg (by omega) (Ev.now _)
  | succ d ih =>
    intro k hk hd
    have hlt : k < l.length := by omega
    have hle := zeroAt_le l k
    refine Ev.step (fun n => by rw [spec_IsolatedChords.l0]) ?_
    refine Ev.ite_pos (by omega) (Ev.ite_pos (by omega) ?_)
    rw [rd_at hlt, wrap_of (by omega) (by omega)]
    have h := ih (k + 1) (by omega) (by omega)
    rw [zeroAt, List.getElem?_eq_getElem hlt] at h
    by_cases e : l[k] = 0
    · rw [if_pos (by rw [e])] at h
      exact Ev.ite_pos e (Ev.ite_pos (by omega) h)
    · rw [if_neg (by simpa using e), List.append_nil] at h
      exact Ev.ite_neg e h
theorem impl_iso_loop (l : List Int) (hl : l.length ≤ 12) : ∀ (d k : Nat), k ≤ l.length → l.length - k = d → Ev (fun n => impl_isolated.l0 n (zeroAt l k) l (l.length : Int) k) (zeroAt l l.length) := by
  intro d
  induction d with
  | zero =>
    intro k hk hd
    obtain rfl : k = l.length := by omega
    refine Ev.step (fun n => by rw [impl_isolated.l0]) ?_
    exact Ev.ite_neg (by omega) (Ev.now _)
  | succ d ih =>
    intro k hk hd
    have hlt : k < l.length := by omega
    have hle := zeroAt_le l k
    refine Ev.step (fun n => by rw [impl_isolated.l0]) ?_
    refine Ev.ite_pos (by omega) (Ev.ite_pos (by omega) (Ev.ite_pos (by omega) ?_))
    rw [rd_at hlt, wrap_of (by omega) (by omega)]
    have h := ih (k + 1) (by omega) (by omega)
    rw [zeroAt, List.getElem?_eq_getElem hlt] at h
    by_cases e : l[k] = 0
    · rw [if_pos (by rw [e])] at h
      exact Ev.ite_pos e (Ev.ite_pos (by omega) h)
    · rw [if_neg (by simpa using e), List.append_nil] at h
      exact Ev.ite_neg e h
theorem ev_spec_IsolatedChords (w : List Int) (hl : w.length ≤ 1048576) : Ev (fun n => spec_IsolatedChords.f n w) (IsolatedChordsR w) := by
  unfold spec_IsolatedChords.f IsolatedChordsR
  refine Ev.bind (ev_spec_l02Code w) ?_
  by_cases h : isWordB w = true
  · have hlen := word_length h
    simp only [if_pos h]
    refine Ev.ite_pos trivial (Ev.bind (ev_spec_l01Cross w h) (Ev.bind (ev_spec_l02Degrees w h) ?_))
    have h2 := spec_iso_loop (degreesL w) (by rw [degreesL_length]; omega) (w.length / 2) 0 (by omega) (by rw [degreesL_length]; omega)
    rw [degreesL_length] at h2
    exact h2
  · simp only [if_neg h]
    exact Ev.ite_neg (by decide) (Ev.now _)
theorem ev_impl_IsolatedChords (w : List Int) (hl : w.length ≤ 1048576) (hw : wfB w = true) : Ev (fun n => impl_IsolatedChords.f n w) (IsolatedChordsR w) := by
  unfold impl_IsolatedChords.f impl_changedWord_at_impl_isolated.f
  refine Ev.bind (a := IsolatedChordsR w) (Ev.bind (ev_impl_IsWord w hw) ?_) (Ev.now _)
  unfold IsolatedChordsR
  by_cases h : isWordB w = true
  · have hlen := word_length h
    refine Ev.ite_pos h ?_
    rw [if_pos h]
    refine Ev.bind ?_ (Ev.now _)
    unfold impl_isolated.f
    refine Ev.bind (ev_impl_degrees w h) ?_
    have h2 := impl_iso_loop (degreesL w) (by rw [degreesL_length]; omega) (w.length / 2) 0 (by omega) (by rw [degreesL_length]; omega)
    rw [degreesL_length] at h2
    rw [degreesL_length]
    exact h2
  · refine Ev.ite_neg h ?_
    rw [if_neg h]
    exact Ev.now _
theorem IsolatedChordsR_le (w : List Int) (_ : w.length ≤ 1048576) : (IsolatedChordsR w).1.length ≤ 12 := by
  unfold IsolatedChordsR
  split
  · rename_i h
    have := word_length h
    have := zeroAt_le (degreesL w) (w.length / 2)
    simp only
    omega
  · simp
theorem FnExactIsolatedChords : laws_FnExactIsolatedChords.Pure := by
  intro l0 hml0 hsl0 hwl0
  have hfl0 : wfB l0 = true := List.all_eq_true.2 hwl0
  refine Ev.rounds ?_
  unfold laws_FnExactIsolatedChords.f
  by_cases hl0 : l0.length ≤ 1048576
  rotate_left
  · exact Ev.ite_pos (by omega) (Ev.now _)
  have hr := IsolatedChordsR_le l0 hl0
  have S := ev_spec_IsolatedChords l0 hl0
  have I := ev_impl_IsolatedChords l0 hl0 hfl0
  have Tl0 := ev_toInt64S l0 (by omega)
  have El0 := ev_eq_same l0 (by omega)
  have Ml0 := ev_markInt64S l0 1 (by omega) (by omega)
  have ER := ev_eq_same (IsolatedChordsR l0).1 (by omega)
  have MR := ev_markInt64S (IsolatedChordsR l0).1 1 (by omega) (by omega)
  have HR := ev_heldInt64S (IsolatedChordsR l0).1.length 1 (by omega) (by omega)
  repeat (first
    | exact Ev.now _
    | refine Ev.bind Tl0 ?_
    | refine Ev.bind S ?_
    | refine Ev.bind I ?_
    | refine Ev.bind El0 ?_
    | refine Ev.bind Ml0 ?_
    | refine Ev.bind ER ?_
    | refine Ev.bind MR ?_
    | refine Ev.bind HR ?_
    | refine Ev.ite_pos rfl ?_
    | (refine Ev.ite_neg ?_ ?_; focus (first | (simp; done) | (simp; omega) | omega))
    | (apply Ev.step; focus (intro n; first | rw [laws_FnExactIsolatedChords.j0] | rw [laws_FnExactIsolatedChords.j1] | rw [laws_FnExactIsolatedChords.j2])))
end Go.Proofs.Ytckmncebedhgeaa.Pure
