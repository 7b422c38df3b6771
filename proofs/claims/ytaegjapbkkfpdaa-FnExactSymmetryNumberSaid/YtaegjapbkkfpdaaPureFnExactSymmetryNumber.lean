/-
  The given law laws.FnExactSymmetryNumber returns true for every list: the program's SymmetryNumber answers as the reference's. No condition.
-/
import Derived.Test.YtaegjapbkkfpdaaEvS
import Derived.Test.YtaegjapbkkfpdaaGlSymmetryNumber
namespace Go.Proofs.Ytaegjapbkkfpdaa.Pure
open Go.RowKit Go.Proofs.Ytaegjapbkkfpdaa.G Go.Proofs.Ytaegjapbkkfpdaa.Plain Go.Proofs.YtaegjapbkkfpdaaW.PrintWords Go.Proofs.YtaegjapbkkfpdaaW.PrintLast

/-- What SymmetryNumber answers. -/
def SymmetryNumberR (w : List Int) : Int × Int := if isWordB w = true then ((staysL w : Int), 0) else (0, 1)
theorem symmetry_loop (w : List Int) (hl : w.length ≤ 1048576) : ∀ (d k c : Nat), k ≤ w.length → w.length - k = d → c ≤ k → Ev (fun n => spec_SymmetryNumber.l0 n w c k) (((c + staysFrom w d k : Nat) : Int), 0) := by
  intro d
  induction d with
  | zero =>
    intro k c hk hd hc
    refine Ev.step (fun n => by rw [spec_SymmetryNumber.l0]) ?_
    refine Ev.ite_neg (by omega) ?_
    exact Ev.now _
  | succ d ih =>
    intro k c hk hd hc
    refine Ev.step (fun n => by rw [spec_SymmetryNumber.l0]) ?_
    refine Ev.ite_pos (by omega) (Ev.bind (ev_spec_l01Rotate w k (by omega) hl) (Ev.bind (ev_spec_l01Same _ _ (by rw [rotL_length]; omega)) ?_))
    have e3 : (k : Int) + 1 = ((k + 1 : Nat) : Int) := by omega
    have e4 : (c : Int) + 1 = ((c + 1 : Nat) : Int) := by omega
    by_cases h : rotL w k = w
    · refine Ev.ite_pos (decide_eq_true h) ?_
      rw [wrap_of (by omega) (by omega), wrap_of (by omega) (by omega), e3, e4]
      have := ih (k + 1) (c + 1) (by omega) (by omega) (by omega)
      unfold staysFrom
      rw [if_pos h, show c + (1 + staysFrom w d (k + 1)) = c + 1 + staysFrom w d (k + 1) by omega]
      exact this
    · refine Ev.ite_neg (by simpa using h) ?_
      rw [wrap_of (by omega) (by omega), e3]
      have := ih (k + 1) c (by omega) (by omega) (by omega)
      unfold staysFrom
      rw [if_neg h, Nat.zero_add]
      exact this
theorem ev_spec_SymmetryNumber (w : List Int) (hl : w.length ≤ 1048576) : Ev (fun n => spec_SymmetryNumber.f n w) (SymmetryNumberR w) := by
  unfold spec_SymmetryNumber.f spec_l02Code.f
  by_cases h : isWordB w = true
  · refine Ev.bind (Ev.bind (ev_spec_l01Is w) (Ev.ite_pos h (Ev.now _))) (Ev.ite_pos rfl ?_)
    have e : SymmetryNumberR w = ((staysL w : Int), 0) := by unfold SymmetryNumberR; rw [if_pos h]
    rw [e]
    by_cases hn : w = []
    · subst hn
      exact Ev.ite_pos rfl (Ev.now _)
    · refine Ev.ite_neg (fun e => hn (List.length_eq_zero_iff.1 (by omega))) ?_
      have hs := symmetry_loop w hl w.length 0 0 (by omega) (by omega) (by omega)
      rw [Nat.zero_add] at hs
      rw [stays_pos h hn]
      exact hs
  · refine Ev.bind (Ev.bind (ev_spec_l01Is w) (Ev.ite_neg h (Ev.now _))) (Ev.ite_neg (by decide) ?_)
    have e : SymmetryNumberR w = (0, 1) := by unfold SymmetryNumberR; rw [if_neg h]
    rw [e]
    exact Ev.now _
theorem ev_impl_SymmetryNumber (w : List Int) (hl : w.length ≤ 1048576) (hw : wfB w = true) : Ev (fun n => impl_SymmetryNumber.f n w) (SymmetryNumberR w) := by
  unfold impl_SymmetryNumber.f impl_countOf_at_impl_stays.f
  by_cases h : isWordB w = true
  · have e : SymmetryNumberR w = ((staysL w : Int), 0) := by unfold SymmetryNumberR; rw [if_pos h]
    rw [e]
    exact Ev.bind (Ev.bind (ev_impl_IsWord w hw) (Ev.ite_pos h (Ev.bind (ev_impl_stays w hl hw) (Ev.now _)))) (Ev.now _)
  · have e : SymmetryNumberR w = (0, 1) := by unfold SymmetryNumberR; rw [if_neg h]
    rw [e]
    exact Ev.bind (Ev.bind (ev_impl_IsWord w hw) (Ev.ite_neg h (Ev.now _))) (Ev.now _)
theorem FnExactSymmetryNumber : laws_FnExactSymmetryNumber.Pure := by
  intro l0 hml0 hsl0 hwl0
  have hfl0 : wfB l0 = true := List.all_eq_true.2 hwl0
  refine Ev.rounds ?_
  unfold laws_FnExactSymmetryNumber.f
  by_cases hl0 : l0.length ≤ 1048576
  rotate_left
  · exact Ev.ite_pos (by omega) (Ev.now _)
  have S := ev_spec_SymmetryNumber l0 hl0
  have I := ev_impl_SymmetryNumber l0 hl0 hfl0
  have Tl0 := ev_toInt64S l0 (by omega)
  have El0 := ev_eq_same l0 (by omega)
  have Ml0 := ev_markInt64S l0 1 (by omega) (by omega)
  repeat (first
    | exact Ev.now _
    | refine Ev.bind Tl0 ?_
    | refine Ev.bind S ?_
    | refine Ev.bind I ?_
    | refine Ev.bind El0 ?_
    | refine Ev.bind Ml0 ?_
    | refine Ev.ite_pos rfl ?_
    | (refine Ev.ite_neg ?_ ?_; focus (first | (simp; done) | (simp; omega) | omega))
    | (apply Ev.step; focus (intro n; first | rw [laws_FnExactSymmetryNumber.j0])))
end Go.Proofs.Ytaegjapbkkfpdaa.Pure
