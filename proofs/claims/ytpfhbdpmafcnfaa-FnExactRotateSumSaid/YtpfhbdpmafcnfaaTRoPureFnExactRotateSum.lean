/-
  The given law laws.FnExactRotateSum returns true for every sum and every whole number: the program's RotateSum answers as the reference's. No condition.
-/
import Derived.Test.YtpfhbdpmafcnfaaTRoEvGb
import Derived.Test.YtpfhbdpmafcnfaaTRoEvR
import Derived.Test.YtpfhbdpmafcnfaaTRoGlRotateSum
namespace Go.Proofs.Ytpfhbdpmafcnfaa.Pure
open Go.RowKit Go.Proofs.Ytpfhbdpmafcnfaa.G Go.Proofs.Ytpfhbdpmafcnfaa.Plain Go.Proofs.YtpfhbdpmafcnfaaW.PrintWords Go.Proofs.YtpfhbdpmafcnfaaW.PrintLast
set_option linter.unusedVariables false
set_option linter.unusedSimpArgs false

theorem rotK_nat {kk : Int} (h0 : 0 ≤ kk) (l : List Int) : ∃ k : Nat, rotK kk l = (k : Int) ∧ k ≤ l.length ∧ (l.length ≠ 0 → Int.tmod kk l.length = (k : Int)) := by
  unfold rotK
  by_cases e : l.length = 0
  · refine ⟨0, ?_, by omega, fun h => absurd e h⟩
    rw [show max (l.length : Int) 1 = 1 by omega]
    exact Int.tmod_one kk
  · rw [show max (l.length : Int) 1 = l.length by omega]
    have h1 := Int.tmod_nonneg (l.length : Int) h0
    have h2 := Int.tmod_lt_of_pos kk (show (0 : Int) < l.length by omega)
    exact ⟨(Int.tmod kk l.length).toNat, by omega, by omega, fun _ => by omega⟩
theorem rotT_rot (kk : Int) (l : List Int) : rotT kk l = rotL l (rotK kk l).toNat := rfl
theorem rotT_ok {kk : Int} {l : List Int} (h : isWordB l = true) : okW (rotT kk l) := by rw [rotT_rot]; exact rot_ok h _
def ansR (p : Int) (ys : List S89) (kk : Int) : Int × List S89 × Int := if sumB p ys = true then (if 0 ≤ kk ∧ kk ≤ 1000 then (p, nzT (renZ p (rotT kk) [] ys), 0) else (0, [], 2)) else (0, [], 1)
theorem ansR_le (p : Int) (ys : List S89) (kk : Int) : (ansR p ys kk).2.1.length ≤ 200 ∧ ∀ x ∈ (ansR p ys kk).2.1, x.f0.length ≤ 1048576 := by
  have h := renR_le (p := p) (o := rotT kk) (ys := ys) (fun h x hx => rotT_ok ((sum_facts h).2.2.1 x hx).1)
  unfold renR at h
  unfold ansR
  by_cases e : sumB p ys = true
  · rw [if_pos e] at h ⊢
    by_cases c : 0 ≤ kk ∧ kk ≤ 1000
    · rw [if_pos c]; exact h
    · rw [if_neg c]; simp
  · rw [if_neg e]; simp
theorem rot_loop (p kk : Int) (hp : 0 < p) (hq : p ≤ 1000) (h0 : 0 ≤ kk) : ∀ (R pre : List S89), pre.length + R.length ≤ 200 → (∀ x ∈ pre ++ R, isWordB x.f0 = true ∧ 1 ≤ x.f1 ∧ x.f1 < p) →
    Ev (fun n => spec_RotateSum.l0 n kk (pre.length : Int) p (pre ++ R) p (nzT (renZ p (rotT kk) [] pre))) (p, nzT (renZ p (rotT kk) [] (pre ++ R)), 0)
  | [], pre, hl, hx => by
    refine Ev.step (fun n => by rw [spec_RotateSum.l0]) ?_
    refine Ev.ite_neg (by simp) (Ev.const ?_)
    simp
  | x :: R, pre, hl, hx => by
    rw [List.length_cons] at hl
    have hr : rd_T89 (pre ++ x :: R) (pre.length : Int) = x := by
      rw [rdJ (by simp)]; simp
    have hw := hx x (by simp)
    have h12 := word_length hw.1
    have hk := (Keeps.nil p).ren hp (o := rotT kk) (xs := pre) (fun y hy => rotT_ok (hx y (List.mem_append_left _ hy)).1)
    have hlen := hk.len
    have hox : okW (rotT kk x.f0) := rotT_ok hw.1
    have hput := ev_putT p (rotT kk x.f0) x.f1 hp hq (by omega) hox.1 (by omega) hk.sorted (fun y hy => (hk.words y hy).1) hk.vals
    rw [← renZ_snoc] at hput
    have h := rot_loop p kk hp hq h0 R (pre ++ [x]) (by simp; omega) (by simpa using hx)
    have e2 : (((pre ++ [x]).length : Nat) : Int) = (pre.length : Int) + 1 := by simp
    rw [e2, List.append_assoc] at h
    refine Ev.step (fun n => by rw [spec_RotateSum.l0]) ?_
    refine Ev.ite_pos (by simp; omega) (Ev.ite_pos (by omega) ?_)
    rw [hr, wrap_of (x := (pre.length : Int) + 1) (by omega) (by omega)]
    obtain ⟨k, k1, k2, k3⟩ := rotK_nat h0 x.f0
    by_cases e : x.f0.length = 0
    · have e3 : x.f0 = [] := List.eq_nil_of_length_eq_zero e
      have e4 : rotT kk x.f0 = x.f0 := by
        rw [rotT_rot, e3]
        unfold rotL
        simp [normalL, firsts]
      rw [e4] at hput
      exact Ev.ite_neg (by omega) (Ev.bind hput h)
    · refine Ev.ite_pos (by omega) (Ev.ite_neg (by omega) ?_)
      rw [k3 e]
      have e5 : rotT kk x.f0 = rotL x.f0 k := by rw [rotT_rot, k1, Int.toNat_natCast]
      rw [e5] at hput
      exact Ev.bind (ev_spec_l01Rotate x.f0 k k2 (by omega)) (Ev.bind hput h)
theorem ev_spec_ans (p : Int) (ys : List S89) (kk : Int) (hl : ys.length ≤ 1048576) (hx : ∀ x ∈ ys, x.f0.length ≤ 1048576) : Ev (fun n => spec_RotateSum.f n p ys kk) (ansR p ys kk) := by
  unfold spec_RotateSum.f ansR spec_l03Empty.f
  refine Ev.bind (ev_spec_l03Is p ys hl hx) ?_
  by_cases e : sumB p ys = true
  · refine Ev.ite_pos e ?_
    rw [if_pos e, in_spec]
    refine Ev.bind (Ev.now _) ?_
    by_cases c : 0 ≤ kk ∧ kk ≤ 1000
    · rw [if_pos c]
      obtain ⟨h1, h2, h3, _⟩ := sum_facts e
      have hp := prime_pos h1
      have h := rot_loop p kk hp.1 (by omega) c.1 ys [] (by simpa using h2) (by simpa using h3)
      rw [List.nil_append] at h
      exact Ev.ite_pos (decide_eq_true c) (Ev.bind (Ev.now _) h)
    · rw [if_neg c]
      exact Ev.ite_neg (by simpa using c) (Ev.now _)
  · refine Ev.ite_neg e ?_
    rw [if_neg e]
    exact Ev.now _
theorem ev_impl_ans (p : Int) (ys : List S89) (kk : Int) (hl : ys.length ≤ 1048576) (hx : ∀ x ∈ ys, x.f0.length ≤ 1048576 ∧ wfB x.f0 = true) : Ev (fun n => impl_RotateSum.f n p ys kk) (ansR p ys kk) := by
  unfold impl_RotateSum.f ansR
  refine Ev.bind (ev_impl_IsSum p ys hl hx) ?_
  by_cases e : sumB p ys = true
  · refine Ev.ite_pos e ?_
    rw [if_pos e, in_impl]
    refine Ev.bind (Ev.now _) ?_
    by_cases c : 0 ≤ kk ∧ kk ≤ 1000
    · refine Ev.ite_pos (decide_eq_true c) ?_
      rw [if_pos c]
      have ho : ∀ x ∈ ys, okW (rotT kk x.f0) := fun x hx => rotT_ok ((sum_facts e).2.2.1 x hx).1
      obtain ⟨c1, c2, c3⟩ := ren_cond (o := rotT kk) e ho
      refine Ev.const ((if_pos ⟨c1, c2, c3, fun x h => ?_⟩).trans (congrArg some (lim_ren (o := rotT kk) e ho)))
      have hw := ((sum_facts e).2.2.1 x h).1
      have h12 := word_length hw
      obtain ⟨k, k1, k2, k3⟩ := rotK_nat c.1 x.f0
      rw [rotT_rot, k1, Int.toNat_natCast]
      exact impl_rotated_f x.f0 k k2 (by omega) (word_wf hw)
    · refine Ev.ite_neg (by simpa using c) ?_
      rw [if_neg c]
      exact Ev.now _
  · refine Ev.ite_neg e ?_
    rw [if_neg e]
    exact Ev.now _
theorem FnExactRotateSum : laws_FnExactRotateSum.Pure := by
  intro z0 l0 i1 wz hn hg wi
  obtain ⟨r, er, hr⟩ := szSum_ev z0 l0 hn (fun x hx => (hg x hx).1)
  rcases hr with hr | ⟨hr, hl, hz⟩
  · obtain ⟨K, hK⟩ := er
    exact .inl ⟨K, r, hK K (Nat.le_refl _), hr⟩
  · refine .inr ?_
    have hc : ∀ y ∈ l0.map conv, y.f0.length ≤ 1048576 ∧ wfB y.f0 = true := by
      intro y hy
      obtain ⟨x, hx, rfl⟩ := List.mem_map.1 hy
      exact ⟨hz x hx, List.all_eq_true.2 (hg x hx).2.1⟩
    have hcl : (l0.map conv).length ≤ 1048576 := by rw [List.length_map]; exact hl
    have T := ev_toSum z0 l0 hl hz
    generalize l0.map conv = ys at hc hcl T
    have h2' := ev_spec_ans z0 ys i1 hcl (fun y hy => (hc y hy).1)
    have h3' := ev_impl_ans z0 ys i1 hcl hc
    obtain ⟨b1, b2⟩ := ansR_le z0 ys i1
    generalize ansR z0 ys i1 = R at h2' h3' b1 b2
    obtain ⟨g0, g1, c⟩ := R
    have b0 : g1.length ≤ 200 := b1
    have b3 : sizeT g1 ≤ g1.length * (1048576 + 1) := sizeT_le b2
    have b4 : g1.length * (1048576 + 1) ≤ 200 * (1048576 + 1) := Nat.mul_le_mul_right _ b0
    have b5 : sizeT ys ≤ ys.length * (1048576 + 1) := sizeT_le (fun y hy => (hc y hy).1)
    have b6 : ys.length * (1048576 + 1) ≤ 1048576 * (1048576 + 1) := Nat.mul_le_mul_right _ hcl
    obtain ⟨K1, h1⟩ := T
    obtain ⟨K2, h2⟩ := h2'
    obtain ⟨K3, h3⟩ := h3'
    obtain ⟨K4, h4⟩ := ev_eqSumT g0 g1 (by omega) b2
    obtain ⟨K5, h5⟩ := ev_eqSumT z0 ys hcl (fun y hy => (hc y hy).1)
    obtain ⟨K6, h6⟩ := ev_markSum ys 1 (by omega) (by omega) hcl
    obtain ⟨K7, h7⟩ := ev_markSum g1 1 (by omega) (by omega) (by omega)
    obtain ⟨K8, h8⟩ := ev_heldSum g0 g1 1 (by omega) (by omega) (by omega)
    obtain ⟨K9, h9⟩ := er
    exact ⟨max K1 (max K2 (max K3 (max K4 (max K5 (max K6 (max K7 (max K8 K9))))))), c, _, g0, g1, _, r, _, ys, _, h1 _ (by omega), h5 _ (by omega), h9 _ (by omega), h2 _ (by omega), h3 _ (by omega), h4 _ (by omega), h6 _ (by omega), h7 _ (by omega), h8 _ (by omega), by omega, by omega, hr⟩
end Go.Proofs.Ytpfhbdpmafcnfaa.Pure
