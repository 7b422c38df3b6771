/-
  The given law laws.FnExactTotalOf returns true for every sum: the program's TotalOf answers as the reference's.
-/
import Derived.Test.YtpfhbdpmafcnfaaEvU
import Derived.Test.YtpfhbdpmafcnfaaGlTotalOf
namespace Go.Proofs.Ytpfhbdpmafcnfaa.Pure
open Go.RowKit Go.Proofs.Ytpfhbdpmafcnfaa.G Go.Proofs.Ytpfhbdpmafcnfaa.Plain Go.Proofs.YtpfhbdpmafcnfaaW.PrintWords Go.Proofs.YtpfhbdpmafcnfaaW.PrintLast
set_option linter.unusedVariables false

def totF (ys : List S89) : Nat → Nat → Int → Int
  | 0, _, a => a
  | d + 1, k, a => totF ys d (k + 1) (wrap64 (a + (rd_T89 ys k).f1))
def TotalR (p : Int) (ys : List S89) : Int × Int := if sumB p ys = true then (Int.tmod (totF ys ys.length 0 0) p, 0) else (0, 1)
theorem total_spec (p : Int) (hp : p ≠ 0) (ys : List S89) (hl : ys.length ≤ 1048576) : ∀ (d k : Nat) (a : Int), k ≤ ys.length → ys.length - k = d → Ev (fun n => spec_TotalOf.l0 n a k p ys) (Int.tmod (totF ys d k a) p, 0) := by
  intro d
  induction d with
  | zero =>
    intro k a hk hd
    unfold totF
    refine Ev.step (fun n => by rw [spec_TotalOf.l0]) ?_
    refine Ev.ite_neg (by omega) (Ev.ite_neg hp ?_)
    exact Ev.now _
  | succ d ih =>
    intro k a hk hd
    refine Ev.step (fun n => by rw [spec_TotalOf.l0]) ?_
    refine Ev.ite_pos (by omega) (Ev.ite_pos (by omega) ?_)
    rw [wrap_of (x := (k : Int) + 1) (by omega) (by omega)]
    exact ih (k + 1) _ (by omega) (by omega)
theorem total_impl (p : Int) (hp : p ≠ 0) (ys : List S89) (hl : ys.length ≤ 1048576) : ∀ (d k : Nat) (a : Int), k ≤ ys.length → ys.length - k = d → Ev (fun n => impl_TotalOf.l0 n a ys (ys.length : Int) k p ys) (Int.tmod (totF ys d k a) p, 0) := by
  intro d
  induction d with
  | zero =>
    intro k a hk hd
    unfold totF
    refine Ev.step (fun n => by rw [impl_TotalOf.l0]) ?_
    refine Ev.ite_neg (by omega) (Ev.ite_neg hp ?_)
    exact Ev.now _
  | succ d ih =>
    intro k a hk hd
    refine Ev.step (fun n => by rw [impl_TotalOf.l0]) ?_
    refine Ev.ite_pos (by omega) (Ev.ite_pos (by omega) (Ev.ite_pos (by omega) ?_))
    rw [wrap_of (x := (k : Int) + 1) (by omega) (by omega)]
    exact ih (k + 1) _ (by omega) (by omega)
theorem sum_ne (p : Int) (ys : List S89) (h : sumB p ys = true) : p ≠ 0 := by
  unfold sumB primeB at h
  rw [Bool.and_eq_true] at h
  have := of_decide_eq_true h.1
  intro e
  subst e
  revert this
  decide
theorem ev_spec_TotalOf (p : Int) (ys : List S89) (hl : ys.length ≤ 1048576) (hx : ∀ x ∈ ys, x.f0.length ≤ 1048576) : Ev (fun n => spec_TotalOf.f n p ys) (TotalR p ys) := by
  unfold spec_TotalOf.f TotalR
  refine Ev.bind (ev_spec_l03Is p ys hl hx) ?_
  by_cases e : sumB p ys = true
  · have r : (if sumB p ys = true then (Int.tmod (totF ys ys.length 0 0) p, (0 : Int)) else (0, 1)) = (Int.tmod (totF ys ys.length 0 0) p, 0) := if_pos e
    rw [r]
    exact Ev.ite_pos e (total_spec p (sum_ne p ys e) ys hl ys.length 0 0 (by omega) (by omega))
  · have r : (if sumB p ys = true then (Int.tmod (totF ys ys.length 0 0) p, (0 : Int)) else (0, 1)) = (0, 1) := if_neg e
    rw [r]
    exact Ev.ite_neg e (Ev.now _)
theorem ev_impl_TotalOf (p : Int) (ys : List S89) (hl : ys.length ≤ 1048576) (hx : ∀ x ∈ ys, x.f0.length ≤ 1048576 ∧ wfB x.f0 = true) : Ev (fun n => impl_TotalOf.f n p ys) (TotalR p ys) := by
  unfold impl_TotalOf.f TotalR
  refine Ev.bind (ev_impl_IsSum p ys hl hx) ?_
  by_cases e : sumB p ys = true
  · have r : (if sumB p ys = true then (Int.tmod (totF ys ys.length 0 0) p, (0 : Int)) else (0, 1)) = (Int.tmod (totF ys ys.length 0 0) p, 0) := if_pos e
    rw [r]
    exact Ev.ite_pos e (total_impl p (sum_ne p ys e) ys hl ys.length 0 0 (by omega) (by omega))
  · have r : (if sumB p ys = true then (Int.tmod (totF ys ys.length 0 0) p, (0 : Int)) else (0, 1)) = (0, 1) := if_neg e
    rw [r]
    exact Ev.ite_neg e (Ev.now _)
theorem FnExactTotalOf (a : Int) (xs : List S110) (hn : xs.length ≤ 9223372036854775807) (ha : (Lit.int .i64 a).wf = true) (hg : ∀ y ∈ xs, y.f0.length ≤ maxLen ∧ (∀ n ∈ y.f0, (Lit.int .i64 n).wf = true) ∧ (Lit.int .i64 y.f1).wf = true) :
    ∃ k, laws_FnExactTotalOf.f k a xs = some true := by
  refine Ev.rounds ?_
  unfold laws_FnExactTotalOf.f
  obtain ⟨r, er, hr⟩ := szSum_ev a xs hn (fun x hx => (hg x hx).1)
  refine Ev.bind er ?_
  rcases hr with hr | ⟨hr, hl, hz⟩
  · exact Ev.ite_pos hr (Ev.now _)
  · have hc : ∀ y ∈ xs.map conv, y.f0.length ≤ 1048576 ∧ wfB y.f0 = true := by
      intro y hy
      obtain ⟨x, hx, rfl⟩ := List.mem_map.1 hy
      exact ⟨hz x hx, List.all_eq_true.2 (hg x hx).2.1⟩
    have hcl : (xs.map conv).length ≤ 1048576 := by rw [List.length_map]; exact hl
    have T := ev_toSum a xs hl hz
    have S := ev_spec_TotalOf a (xs.map conv) hcl (fun y hy => (hc y hy).1)
    have I := ev_impl_TotalOf a (xs.map conv) hcl hc
    have E := ev_eqSum_same a (xs.map conv) hcl (fun y hy => (hc y hy).1)
    refine Ev.ite_neg (by omega) (Ev.bind T (Ev.bind S (Ev.bind T (Ev.bind I (Ev.ite_pos rfl ?_)))))
    refine Ev.step (fun n => by rw [laws_FnExactTotalOf.j0]) ?_
    exact Ev.ite_neg (by simp) (Ev.bind T (Ev.bind E (Ev.ite_pos rfl (Ev.now _))))
end Go.Proofs.Ytpfhbdpmafcnfaa.Pure
