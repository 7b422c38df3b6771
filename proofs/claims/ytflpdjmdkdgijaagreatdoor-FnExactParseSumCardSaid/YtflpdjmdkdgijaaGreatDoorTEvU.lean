/-
  Plain laws of sums: copies, comparisons and sizes of their terms; the reference's and the program's test.
-/
import Derived.Test.YtflpdjmdkdgijaaGreatDoorTEvA
import Derived.Test.YtflpdjmdkdgijaaGreatDoorTEvW
import Derived.Test.YtflpdjmdkdgijaaGreatDoorTEvO
import Derived.Test.YtflpdjmdkdgijaaGreatDoorTEvI
import Derived.Test.YtflpdjmdkdgijaaGreatDoorTEvUe
import Derived.Test.YtflpdjmdkdgijaaGreatDoorTG25
import Derived.Test.YtflpdjmdkdgijaaGreatDoorTGgW
namespace Go.Proofs.YtflpdjmdkdgijaaGreatDoor.Pure
open Go.RowKit Go.Proofs.YtflpdjmdkdgijaaGreatDoor.G Go.Proofs.YtflpdjmdkdgijaaGreatDoor.Plain Go.Proofs.YtflpdjmdkdgijaaGreatDoorW.PrintWords Go.Proofs.YtflpdjmdkdgijaaGreatDoorW.PrintLast
set_option linter.unusedVariables false

def stepB (p : Int) (ys : List S45) (k : Nat) : Bool :=
  isWordB (rd_T45 ys k).f0 && (decide (1 ≤ (rd_T45 ys k).f1 ∧ (rd_T45 ys k).f1 ≤ wrap64 (p - 1)) && (decide (k = 0) || befB (rd_T45 ys ((k : Int) - 1)).f0 (rd_T45 ys k).f0))
def okFrom (p : Int) (ys : List S45) : Nat → Nat → Bool
  | 0, _ => true
  | d + 1, k => stepB p ys k && okFrom p ys d (k + 1)
def sumB (p : Int) (ys : List S45) : Bool := primeB p && (decide (ys.length ≤ 200) && okFrom p ys ys.length 0)
theorem is_loop_spec (p : Int) (ys : List S45) (hl : ys.length ≤ 1048576) (hx : ∀ x ∈ ys, x.f0.length ≤ 1048576) : ∀ (d k : Nat), k ≤ ys.length → ys.length - k = d → Ev (fun n => spec_l03Is.l0 n k p ys) (okFrom p ys d k) := by
  intro d
  induction d with
  | zero =>
    intro k hk hd
    unfold okFrom
    refine Ev.step (fun n => by rw [spec_l03Is.l0]) ?_
    refine Ev.ite_neg (by omega) ?_
    exact Ev.now _
  | succ d ih =>
    intro k hk hd
    have h : k < ys.length := by omega
    have hm : (rd_T45 ys k).f0.length ≤ 1048576 := by rw [rdJ h]; exact hx _ (List.getElem_mem h)
    have i := ih (k + 1) (by omega) (by omega)
    unfold okFrom stepB
    refine Ev.step (fun n => by rw [spec_l03Is.l0]) (Ev.ite_pos (by omega) (Ev.ite_pos (by omega) (Ev.bind (ev_spec_l01Is _) ?_)))
    by_cases a : isWordB (rd_T45 ys k).f0 = true
    · rw [a, Bool.true_and]
      refine Ev.ite_pos rfl (Ev.bind (Ev.const (in_spec _ _ _)) ?_)
      by_cases b : 1 ≤ (rd_T45 ys k).f1 ∧ (rd_T45 ys k).f1 ≤ wrap64 (p - 1)
      · rw [decide_eq_true b, Bool.true_and]
        refine Ev.ite_pos rfl ?_
        rw [wrap_of (x := (k : Int) + 1) (by omega) (by omega)]
        by_cases c : k = 0
        · rw [decide_eq_true c, Bool.true_or, Bool.true_and]
          exact Ev.ite_neg (by omega) i
        · have hm2 : (rd_T45 ys ((k : Int) - 1)).f0.length ≤ 1048576 := by
            have e : ((k : Int) - 1) = ((k - 1 : Nat) : Int) := by omega
            rw [e, rdJ (by omega)]; exact hx _ (List.getElem_mem _)
          rw [decide_eq_false c, Bool.false_or, wrap_of (x := (k : Int) - 1) (by omega) (by omega)]
          refine Ev.ite_pos (by omega) (Ev.ite_pos (by omega) (Ev.ite_pos (by omega) (Ev.bind (ev_before _ _ hm2 hm) ?_)))
          by_cases q : befB (rd_T45 ys ((k : Int) - 1)).f0 (rd_T45 ys k).f0 = true
          · rw [q, Bool.true_and]
            exact Ev.ite_pos rfl i
          · have q2 : befB (rd_T45 ys ((k : Int) - 1)).f0 (rd_T45 ys k).f0 = false := by simpa using q
            rw [q2, Bool.false_and]
            exact Ev.ite_neg (by decide) (Ev.now _)
      · rw [decide_eq_false b, Bool.false_and, Bool.false_and]
        exact Ev.ite_neg (by decide) (Ev.now _)
    · have a2 : isWordB (rd_T45 ys k).f0 = false := by simpa using a
      rw [a2, Bool.false_and, Bool.false_and]
      exact Ev.ite_neg (by decide) (Ev.now _)
theorem is_loop_impl (p : Int) (ys : List S45) (hl : ys.length ≤ 1048576) (hx : ∀ x ∈ ys, x.f0.length ≤ 1048576 ∧ wfB x.f0 = true) : ∀ (d k : Nat), k ≤ ys.length → ys.length - k = d → Ev (fun n => impl_IsSum.l0 n ys (ys.length : Int) k p ys) (okFrom p ys d k) := by
  intro d
  induction d with
  | zero =>
    intro k hk hd
    unfold okFrom
    refine Ev.step (fun n => by rw [impl_IsSum.l0]) ?_
    refine Ev.ite_neg (by omega) ?_
    exact Ev.now _
  | succ d ih =>
    intro k hk hd
    have h : k < ys.length := by omega
    have hm : (rd_T45 ys k).f0.length ≤ 1048576 ∧ wfB (rd_T45 ys k).f0 = true := by rw [rdJ h]; exact hx _ (List.getElem_mem h)
    have i := ih (k + 1) (by omega) (by omega)
    unfold okFrom stepB
    refine Ev.step (fun n => by rw [impl_IsSum.l0]) (Ev.ite_pos (by omega) (Ev.ite_pos (by omega) (Ev.ite_pos (by omega) (Ev.bind (ev_impl_IsWord _ hm.2) ?_))))
    by_cases a : isWordB (rd_T45 ys k).f0 = true
    · rw [a, Bool.true_and]
      refine Ev.ite_pos rfl (Ev.bind (Ev.const (in_impl _ _ _)) ?_)
      by_cases b : 1 ≤ (rd_T45 ys k).f1 ∧ (rd_T45 ys k).f1 ≤ wrap64 (p - 1)
      · rw [decide_eq_true b, Bool.true_and]
        refine Ev.ite_pos rfl ?_
        rw [wrap_of (x := (k : Int) + 1) (by omega) (by omega)]
        by_cases c : k = 0
        · rw [decide_eq_true c, Bool.true_or, Bool.true_and]
          exact Ev.ite_neg (by omega) i
        · have hm2 : (rd_T45 ys ((k : Int) - 1)).f0.length ≤ 1048576 := by
            have e : ((k : Int) - 1) = ((k - 1 : Nat) : Int) := by omega
            rw [e, rdJ (by omega)]; exact (hx _ (List.getElem_mem _)).1
          rw [decide_eq_false c, Bool.false_or, wrap_of (x := (k : Int) - 1) (by omega) (by omega)]
          refine Ev.ite_pos (by omega) (Ev.ite_pos (by omega) (Ev.ite_pos (by omega) (Ev.bind (ev_order _ _ hm2 hm.1) ?_)))
          have ob := ordI_bef (rd_T45 ys ((k : Int) - 1)).f0 (rd_T45 ys k).f0
          by_cases q : befB (rd_T45 ys ((k : Int) - 1)).f0 (rd_T45 ys k).f0 = true
          · rw [q, Bool.true_and]
            refine Ev.ite_neg (fun z => ?_) i
            have := ob.1 z
            rw [q] at this; cases this
          · have q2 : befB (rd_T45 ys ((k : Int) - 1)).f0 (rd_T45 ys k).f0 = false := by simpa using q
            rw [q2, Bool.false_and]
            exact Ev.ite_pos (ob.2 q2) (Ev.now _)
      · rw [decide_eq_false b, Bool.false_and, Bool.false_and]
        exact Ev.ite_neg (by decide) (Ev.now _)
    · have a2 : isWordB (rd_T45 ys k).f0 = false := by simpa using a
      rw [a2, Bool.false_and, Bool.false_and]
      exact Ev.ite_neg (by decide) (Ev.now _)
theorem ev_spec_l03Is_any (p : Int) (ys : List S45) (hx : ∀ x ∈ ys, x.f0.length ≤ 1048576) : Ev (fun n => spec_l03Is.f n p ys) (sumB p ys) := by
  unfold spec_l03Is.f sumB
  refine Ev.bind (Ev.const (prime_spec p)) ?_
  by_cases a : primeB p = true
  · rw [a, Bool.true_and]
    refine Ev.ite_pos rfl ?_
    refine Ev.step (fun n => by rw [spec_l03Is.j0]) ?_
    by_cases b : ys.length ≤ 200
    · rw [decide_eq_true b, Bool.true_and]
      refine Ev.ite_neg (by simp; omega) ?_
      exact is_loop_spec p ys (by omega) hx ys.length 0 (by omega) (by omega)
    · rw [decide_eq_false b, Bool.false_and]
      refine Ev.ite_pos (by simp; omega) ?_
      exact Ev.now _
  · have a2 : primeB p = false := by simpa using a
    rw [a2, Bool.false_and]
    refine Ev.ite_neg (by decide) ?_
    refine Ev.step (fun n => by rw [spec_l03Is.j0]) ?_
    exact Ev.ite_pos rfl (Ev.now _)
theorem ev_impl_IsSum (p : Int) (ys : List S45) (hl : ys.length ≤ 1048576) (hx : ∀ x ∈ ys, x.f0.length ≤ 1048576 ∧ wfB x.f0 = true) : Ev (fun n => impl_IsSum.f n p ys) (sumB p ys) := by
  unfold impl_IsSum.f sumB
  have P : Ev (fun n => impl_isPrime.f n p) (primeB p) := by
    unfold impl_isPrime.f primeB
    exact Ev.bind (ev_slices_ContainsI _ p (by decide)) (Ev.now _)
  refine Ev.bind P ?_
  by_cases a : primeB p = true
  · rw [a, Bool.true_and]
    refine Ev.ite_pos rfl ?_
    refine Ev.step (fun n => by rw [impl_IsSum.j0]) ?_
    by_cases b : ys.length ≤ 200
    · rw [decide_eq_true b, Bool.true_and]
      refine Ev.ite_neg (by simp; omega) ?_
      exact is_loop_impl p ys hl hx ys.length 0 (by omega) (by omega)
    · rw [decide_eq_false b, Bool.false_and]
      refine Ev.ite_pos (by simp; omega) ?_
      exact Ev.now _
  · have a2 : primeB p = false := by simpa using a
    rw [a2, Bool.false_and]
    refine Ev.ite_neg (by decide) ?_
    refine Ev.step (fun n => by rw [impl_IsSum.j0]) ?_
    exact Ev.ite_pos rfl (Ev.now _)
end Go.Proofs.YtflpdjmdkdgijaaGreatDoor.Pure
