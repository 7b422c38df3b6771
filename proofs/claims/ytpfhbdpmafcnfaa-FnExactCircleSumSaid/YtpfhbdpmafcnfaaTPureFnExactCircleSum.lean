/-
  The given law laws.FnExactCircleSum returns true for every sum: the program's CircleSum answers as the reference's. No condition.
-/
import Derived.Test.YtpfhbdpmafcnfaaTEvGb
import Derived.Test.YtpfhbdpmafcnfaaTEvR
import Derived.Test.YtpfhbdpmafcnfaaTG105
import Derived.Test.YtpfhbdpmafcnfaaTGlCircleSum
namespace Go.Proofs.Ytpfhbdpmafcnfaa.Pure
open Go.RowKit Go.Proofs.Ytpfhbdpmafcnfaa.G Go.Proofs.Ytpfhbdpmafcnfaa.Plain Go.Proofs.YtpfhbdpmafcnfaaW.PrintWords Go.Proofs.YtpfhbdpmafcnfaaW.PrintLast
set_option linter.unusedVariables false
set_option linter.unusedSimpArgs false
def ansR (p : Int) (ys : List S89) : Int × List S89 × Int := renR p (fun l => leastL l) ys
theorem ansR_le (p : Int) (ys : List S89) : (ansR p ys).2.1.length ≤ 200 ∧ ∀ x ∈ (ansR p ys).2.1, x.f0.length ≤ 1048576 := renR_le (fun h x hx => least_ok ((sum_facts h).2.2.1 x hx).1)
theorem circ_loop (p : Int) (hp : 0 < p) (hq : p ≤ 1000) : ∀ (R pre : List S89), pre.length + R.length ≤ 200 → (∀ x ∈ pre ++ R, isWordB x.f0 = true ∧ 1 ≤ x.f1 ∧ x.f1 < p) →
    Ev (fun n => spec_l03Circle.l0 n (pre.length : Int) p (pre ++ R) p (nzT (renZ p (fun l => leastL l) [] pre))) (p, nzT (renZ p (fun l => leastL l) [] (pre ++ R)))
  | [], pre, hl, hx => by
    refine Ev.step (fun n => by rw [spec_l03Circle.l0]) ?_
    refine Ev.ite_neg (by simp) (Ev.const ?_)
    simp
  | x :: R, pre, hl, hx => by
    rw [List.length_cons] at hl
    have hr : rd_T89 (pre ++ x :: R) (pre.length : Int) = x := by
      rw [rdJ (by simp)]; simp
    have hw := hx x (by simp)
    have h12 := word_length hw.1
    have hk := (Keeps.nil p).ren hp (o := fun l => leastL l) (xs := pre) (fun y hy => least_ok (hx y (List.mem_append_left _ hy)).1)
    have hlen := hk.len
    have hox : okW ((fun l => leastL l) x.f0) := least_ok hw.1
    refine Ev.step (fun n => by rw [spec_l03Circle.l0]) ?_
    refine Ev.ite_pos (by simp; omega) (Ev.ite_pos (by omega) ?_)
    rw [hr]
    refine Ev.bind (ev_spec_l01Least x.f0 (by omega)) ?_
    refine Ev.bind (ev_putT p ((fun l => leastL l) x.f0) x.f1 hp hq (by omega) hox.1 (by omega) hk.sorted (fun y hy => (hk.words y hy).1) hk.vals) ?_
    rw [← renZ_snoc, wrap_of (by omega) (by omega)]
    have h := circ_loop p hp hq R (pre ++ [x]) (by simp; omega) (by simpa using hx)
    have e2 : (((pre ++ [x]).length : Nat) : Int) = (pre.length : Int) + 1 := by simp
    rw [e2, List.append_assoc] at h
    exact h
theorem ev_spec_ans (p : Int) (ys : List S89) (hl : ys.length ≤ 1048576) (hx : ∀ x ∈ ys, x.f0.length ≤ 1048576) : Ev (fun n => spec_CircleSum.f n p ys) (ansR p ys) := by
  unfold spec_CircleSum.f ansR renR spec_l03Circle.f spec_l03Empty.f
  refine Ev.bind (ev_spec_l03Is p ys hl hx) ?_
  by_cases e : sumB p ys = true
  · refine Ev.ite_pos e ?_
    rw [if_pos e]
    obtain ⟨h1, h2, h3, _⟩ := sum_facts e
    have hp := prime_pos h1
    have h := circ_loop p hp.1 (by omega) ys [] (by simpa using h2) (by simpa using h3)
    rw [List.nil_append] at h
    exact Ev.bind (Ev.bind (Ev.now _) h) (Ev.now _)
  · refine Ev.ite_neg e ?_
    rw [if_neg e]
    exact Ev.now _
theorem ev_impl_ans (p : Int) (ys : List S89) (hl : ys.length ≤ 1048576) (hx : ∀ x ∈ ys, x.f0.length ≤ 1048576 ∧ wfB x.f0 = true) : Ev (fun n => impl_CircleSum.f n p ys) (ansR p ys) := by
  unfold impl_CircleSum.f ansR renR
  refine Ev.bind (ev_impl_IsSum p ys hl hx) ?_
  by_cases e : sumB p ys = true
  · refine Ev.ite_pos e ?_
    rw [if_pos e]
    have ho : ∀ x ∈ ys, okW ((fun l => leastL l) x.f0) := fun x hx => least_ok ((sum_facts e).2.2.1 x hx).1
    obtain ⟨c1, c2, c3⟩ := ren_cond (o := fun l => leastL l) e ho
    refine Ev.const ((if_pos ⟨c1, c2, c3, fun x h => ?_⟩).trans (congrArg some (lim_ren (o := fun l => leastL l) e ho)))
    have hw := ((sum_facts e).2.2.1 x h).1
    have h12 := word_length hw
    obtain ⟨K, hK⟩ := ev_impl_least x.f0 hw
    exact ⟨K, hK K (Nat.le_refl _)⟩
  · refine Ev.ite_neg e ?_
    rw [if_neg e]
    exact Ev.now _
theorem FnExactCircleSum : laws_FnExactCircleSum.Pure := by
  intro z0 l0 wz hn hg
  obtain ⟨r, er, hr⟩ := szSum_ev z0 l0 hn (fun x hx => (hg x hx).1)
  rcases hr with hr | ⟨hr, hl, hz⟩
  · obtain ⟨K, hK⟩ := er
    exact .inl ⟨K, r, hK K (Nat.le_refl _), hr⟩
  · refine .inr ?_
    have hc : ∀ y ∈ l0.map conv, y.f0.length ≤ 1048576 ∧ wfB y.f0 = true := by
      intro y hy
      obtain ⟨x, hx, rfl⟩ := List.mem_map.1 hy
      exact ⟨hz x hx, List.all_eq_true.2 (hg x hx).2.1⟩
    have hcl : (l0.map conv).length ≤ 1048576 := by rw [List.length_map]; exact hl
    have T := ev_toSum z0 l0 hl hz
    generalize l0.map conv = ys at hc hcl T
    have h2' := ev_spec_ans z0 ys hcl (fun y hy => (hc y hy).1)
    have h3' := ev_impl_ans z0 ys hcl hc
    obtain ⟨b1, b2⟩ := ansR_le z0 ys
    generalize ansR z0 ys = R at h2' h3' b1 b2
    obtain ⟨g0, g1, c⟩ := R
    have b0 : g1.length ≤ 200 := b1
    have b3 : sizeT g1 ≤ g1.length * (1048576 + 1) := sizeT_le b2
    have b4 : g1.length * (1048576 + 1) ≤ 200 * (1048576 + 1) := Nat.mul_le_mul_right _ b0
    have b5 : sizeT ys ≤ ys.length * (1048576 + 1) := sizeT_le (fun y hy => (hc y hy).1)
    have b6 : ys.length * (1048576 + 1) ≤ 1048576 * (1048576 + 1) := Nat.mul_le_mul_right _ hcl
    obtain ⟨K1, h1⟩ := T
    obtain ⟨K2, h2⟩ := h2'
    obtain ⟨K3, h3⟩ := h3'
    obtain ⟨K4, h4⟩ := ev_eqSumT g0 g1 (by omega) b2
    obtain ⟨K5, h5⟩ := ev_eqSumT z0 ys hcl (fun y hy => (hc y hy).1)
    obtain ⟨K6, h6⟩ := ev_markSum ys 1 (by omega) (by omega) hcl
    obtain ⟨K7, h7⟩ := ev_markSum g1 1 (by omega) (by omega) (by omega)
    obtain ⟨K8, h8⟩ := ev_heldSum g0 g1 1 (by omega) (by omega) (by omega)
    obtain ⟨K9, h9⟩ := er
    exact ⟨max K1 (max K2 (max K3 (max K4 (max K5 (max K6 (max K7 (max K8 K9))))))), c, _, g0, g1, _, r, _, ys, _, h1 _ (by omega), h5 _ (by omega), h9 _ (by omega), h2 _ (by omega), h3 _ (by omega), h4 _ (by omega), h6 _ (by omega), h7 _ (by omega), h8 _ (by omega), by omega, by omega, hr⟩
end Go.Proofs.Ytpfhbdpmafcnfaa.Pure
