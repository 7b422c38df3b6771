/-
  The given law laws.FnExactCoefficientAt returns true for every sum and every list: the program's CoefficientAt answers as the reference's.
-/
import Derived.Test.YtpfhbdpmafcnfaaEvU
import Derived.Test.YtpfhbdpmafcnfaaG85
import Derived.Test.YtpfhbdpmafcnfaaGlCoefficientAt
namespace Go.Proofs.Ytpfhbdpmafcnfaa.Pure
open Go.RowKit Go.Proofs.Ytpfhbdpmafcnfaa.G Go.Proofs.Ytpfhbdpmafcnfaa.Plain Go.Proofs.YtpfhbdpmafcnfaaW.PrintWords Go.Proofs.YtpfhbdpmafcnfaaW.PrintLast
set_option linter.unusedVariables false

def atF (w : List Int) (ys : List S89) : Nat → Nat → Int
  | 0, _ => 0
  | d + 1, k => if (rd_T89 ys k).f0 = w then (rd_T89 ys k).f1 else atF w ys d (k + 1)
def CoefR (p : Int) (ys : List S89) (w : List Int) : Int × Int := if sumB p ys = true ∧ isWordB w = true then (atF w ys ys.length 0, 0) else (0, 1)
theorem at_spec (p : Int) (w : List Int) (ys : List S89) (hl : ys.length ≤ 1048576) (hx : ∀ x ∈ ys, x.f0.length ≤ 1048576) : ∀ (d k : Nat), k ≤ ys.length → ys.length - k = d → Ev (fun n => spec_l03At.l0 n w k p ys) (atF w ys d k) := by
  intro d
  induction d with
  | zero =>
    intro k hk hd
    unfold atF
    exact Ev.step (fun n => by rw [spec_l03At.l0]) (Ev.ite_neg (by omega) (Ev.now _))
  | succ d ih =>
    intro k hk hd
    have hlt : k < ys.length := by omega
    have hm : (rd_T89 ys k).f0.length ≤ 1048576 := by rw [rdJ hlt]; exact hx _ (List.getElem_mem hlt)
    refine Ev.step (fun n => by rw [spec_l03At.l0]) ?_
    refine Ev.ite_pos (by omega) (Ev.ite_pos (by omega) (Ev.bind (ev_spec_l01Same _ _ (by omega)) ?_))
    unfold atF
    by_cases c : (rd_T89 ys k).f0 = w
    · rw [if_pos c]
      exact Ev.ite_pos (decide_eq_true c) (Ev.now _)
    · rw [if_neg c, wrap_of (x := (k : Int) + 1) (by omega) (by omega)]
      exact Ev.ite_neg (by rw [decide_eq_true_eq]; exact c) (ih (k + 1) (by omega) (by omega))
theorem at_impl (p : Int) (w : List Int) (ys : List S89) (hl : ys.length ≤ 1048576) (hx : ∀ x ∈ ys, x.f0.length ≤ 1048576) : ∀ (d k : Nat), k ≤ ys.length → ys.length - k = d → Ev (fun n => impl_Sum_at.l0 n w ys (ys.length : Int) k p ys) (atF w ys d k, p) := by
  intro d
  induction d with
  | zero =>
    intro k hk hd
    unfold atF
    exact Ev.step (fun n => by rw [impl_Sum_at.l0]) (Ev.ite_neg (by omega) (Ev.now _))
  | succ d ih =>
    intro k hk hd
    have hlt : k < ys.length := by omega
    have hm : (rd_T89 ys k).f0.length ≤ 1048576 := by rw [rdJ hlt]; exact hx _ (List.getElem_mem hlt)
    refine Ev.step (fun n => by rw [impl_Sum_at.l0]) ?_
    refine Ev.ite_pos (by omega) (Ev.ite_pos (by omega) (Ev.ite_pos (by omega) (Ev.bind (ev_slices_Equal _ _ (by omega)) ?_)))
    unfold atF
    by_cases c : (rd_T89 ys k).f0 = w
    · rw [if_pos c]
      exact Ev.ite_pos (decide_eq_true c) (Ev.now _)
    · rw [if_neg c, wrap_of (x := (k : Int) + 1) (by omega) (by omega)]
      exact Ev.ite_neg (by rw [decide_eq_true_eq]; exact c) (ih (k + 1) (by omega) (by omega))
theorem ev_spec_CoefficientAt (p : Int) (ys : List S89) (w : List Int) (hl : ys.length ≤ 1048576) (hx : ∀ x ∈ ys, x.f0.length ≤ 1048576) : Ev (fun n => spec_CoefficientAt.f n p ys w) (CoefR p ys w) := by
  unfold spec_CoefficientAt.f
  refine Ev.bind (ev_spec_l03Is p ys hl hx) ?_
  by_cases e : sumB p ys = true
  · refine Ev.ite_pos e (Ev.bind (ev_spec_l01Is w) ?_)
    by_cases e2 : isWordB w = true
    · have r : CoefR p ys w = (atF w ys ys.length 0, 0) := by unfold CoefR; exact if_pos ⟨e, e2⟩
      rw [r]
      exact Ev.ite_pos e2 (Ev.bind (at_spec p w ys hl hx ys.length 0 (by omega) (by omega)) (Ev.now _))
    · have r : CoefR p ys w = (0, 1) := by unfold CoefR; exact if_neg (fun h => e2 h.2)
      rw [r]
      exact Ev.ite_neg e2 (Ev.now _)
  · have r : CoefR p ys w = (0, 1) := by unfold CoefR; exact if_neg (fun h => e h.1)
    rw [r]
    exact Ev.ite_neg e (Ev.now _)
theorem ev_impl_CoefficientAt (p : Int) (ys : List S89) (w : List Int) (hw : wfB w = true) (hl : ys.length ≤ 1048576) (hx : ∀ x ∈ ys, x.f0.length ≤ 1048576 ∧ wfB x.f0 = true) : Ev (fun n => impl_CoefficientAt.f n p ys w) (CoefR p ys w) := by
  unfold impl_CoefficientAt.f
  refine Ev.bind (ev_impl_IsSum p ys hl hx) ?_
  by_cases e : sumB p ys = true
  · refine Ev.ite_pos e (Ev.bind (ev_impl_IsWord w hw) ?_)
    by_cases e2 : isWordB w = true
    · have r : CoefR p ys w = (atF w ys ys.length 0, 0) := by unfold CoefR; exact if_pos ⟨e, e2⟩
      rw [r]
      have a := at_impl p w ys hl (fun x h => (hx x h).1) ys.length 0 (by omega) (by omega)
      exact Ev.ite_pos e2 (Ev.bind (show Ev (fun n => impl_Sum_at.f n p ys w) _ from a) (Ev.now _))
    · have r : CoefR p ys w = (0, 1) := by unfold CoefR; exact if_neg (fun h => e2 h.2)
      rw [r]
      exact Ev.ite_neg e2 (Ev.now _)
  · have r : CoefR p ys w = (0, 1) := by unfold CoefR; exact if_neg (fun h => e h.1)
    rw [r]
    exact Ev.ite_neg e (Ev.now _)
theorem FnExactCoefficientAt (a : Int) (xs : List S110) (l : List Int) (hn : xs.length ≤ 9223372036854775807) (ha : (Lit.int .i64 a).wf = true) (hg : ∀ y ∈ xs, y.f0.length ≤ maxLen ∧ (∀ n ∈ y.f0, (Lit.int .i64 n).wf = true) ∧ (Lit.int .i64 y.f1).wf = true)
    (hm : l.length ≤ maxLen) (hw : ∀ n ∈ l, (Lit.int .i64 n).wf = true) :
    ∃ k, laws_FnExactCoefficientAt.f k a xs l = some true := by
  refine Ev.rounds ?_
  unfold laws_FnExactCoefficientAt.f
  by_cases hL : (l.length : Int) > 1048576
  · exact Ev.ite_pos hL (Ev.now _)
  refine Ev.ite_neg hL ?_
  obtain ⟨r, er, hr⟩ := szSum_ev a xs hn (fun x hx => (hg x hx).1)
  refine Ev.bind er ?_
  rcases hr with hr | ⟨hr, hl, hz⟩
  · exact Ev.ite_pos hr (Ev.now _)
  · have hc : ∀ y ∈ xs.map conv, y.f0.length ≤ 1048576 ∧ wfB y.f0 = true := by
      intro y hy
      obtain ⟨x, hx, rfl⟩ := List.mem_map.1 hy
      exact ⟨hz x hx, List.all_eq_true.2 (hg x hx).2.1⟩
    have hcl : (xs.map conv).length ≤ 1048576 := by rw [List.length_map]; exact hl
    have T := ev_toSum a xs hl hz
    have T2 := ev_toInt64S l (by omega)
    have S := ev_spec_CoefficientAt a (xs.map conv) l hcl (fun y hy => (hc y hy).1)
    have I := ev_impl_CoefficientAt a (xs.map conv) l (List.all_eq_true.2 hw) hcl hc
    have E := ev_eqSum_same a (xs.map conv) hcl (fun y hy => (hc y hy).1)
    have E2 := ev_eq_same l (by omega)
    refine Ev.ite_neg (by omega) (Ev.bind T (Ev.bind T2 (Ev.bind S (Ev.bind T (Ev.bind T2 (Ev.bind I (Ev.ite_pos rfl ?_)))))))
    refine Ev.step (fun n => by rw [laws_FnExactCoefficientAt.j0]) ?_
    exact Ev.ite_neg (by simp) (Ev.bind T (Ev.bind E (Ev.ite_pos rfl (Ev.bind T2 (Ev.bind E2 (Ev.ite_pos rfl (Ev.now _)))))))
end Go.Proofs.Ytpfhbdpmafcnfaa.Pure
