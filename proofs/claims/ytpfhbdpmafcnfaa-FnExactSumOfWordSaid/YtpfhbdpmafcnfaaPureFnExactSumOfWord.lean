/-
  The given law laws.FnExactSumOfWord returns true for all whole numbers and every list: the program's SumOfWord answers as the reference's. No condition.
-/
import Derived.Test.YtpfhbdpmafcnfaaEvGa
import Derived.Test.YtpfhbdpmafcnfaaGlSumOfWord
namespace Go.Proofs.Ytpfhbdpmafcnfaa.Pure
open Go.RowKit Go.Proofs.Ytpfhbdpmafcnfaa.G Go.Proofs.Ytpfhbdpmafcnfaa.Plain Go.Proofs.YtpfhbdpmafcnfaaW.PrintWords Go.Proofs.YtpfhbdpmafcnfaaW.PrintLast
set_option linter.unusedVariables false

def oneR (p : Int) (w : List Int) (v : Int) : Int × List S89 × Int := if isWordB w = true then (if valB p v = true then (p, nzT (putZ p [] w v), 0) else (0, [], 2)) else (0, [], 1)
theorem ev_one_spec (p : Int) (w : List Int) (v : Int) (hw : w.length ≤ 1048576) : Ev (fun n => spec_SumOfWord.f n p w v) (oneR p w v) := by
  unfold spec_SumOfWord.f oneR
  refine Ev.bind (ev_spec_l01Is w) ?_
  by_cases e : isWordB w = true
  · rw [if_pos e]
    refine Ev.ite_pos e ?_
    rw [prime_spec]
    refine Ev.bind (Ev.now _) ?_
    cases h : primeB p
    · have : valB p v = false := by unfold valB; rw [h]; rfl
      rw [this, if_neg (by simp)]
      refine Ev.ite_neg (by simp) (Ev.step (fun n => by rw [spec_SumOfWord.j0]) ?_)
      exact Ev.ite_pos rfl (Ev.now _)
    · have hp := prime_pos h
      refine Ev.ite_pos rfl ?_
      rw [wrap_of (by omega) (by omega), in_spec]
      refine Ev.bind (Ev.now _) (Ev.step (fun n => by rw [spec_SumOfWord.j0]) ?_)
      by_cases hv : 0 ≤ v ∧ v ≤ p - 1
      · have : valB p v = true := by unfold valB; rw [h]; simp [hv]
        rw [this, if_pos rfl]
        have h2 := ev_putT p w v (L := []) hp.1 (by omega) (by omega) hw (by simp) List.Pairwise.nil (fun x hx => (List.not_mem_nil hx).elim) (fun x hx => (List.not_mem_nil hx).elim)
        unfold spec_l03Empty.f
        exact Ev.ite_neg (by simp [hv]) (Ev.bind (Ev.now _) (Ev.bind h2 (Ev.now _)))
      · have : valB p v = false := by unfold valB; rw [h]; simp; omega
        rw [this, if_neg (by simp)]
        exact Ev.ite_pos (by simp; omega) (Ev.now _)
  · rw [if_neg e]
    exact Ev.ite_neg e (Ev.now _)
theorem ev_one_impl (p : Int) (w : List Int) (v : Int) (hw : wfB w = true) : Ev (fun n => impl_SumOfWord.f n p w v) (oneR p w v) := by
  unfold impl_SumOfWord.f oneR
  refine Ev.bind (ev_impl_IsWord w hw) ?_
  by_cases e : isWordB w = true
  · rw [if_pos e]
    refine Ev.ite_pos e (Ev.bind (ev_valueOkT p v) ?_)
    by_cases c : valB p v = true
    · refine Ev.ite_pos c ?_
      rw [if_pos c]
      have h1 : primeB p = true ∧ (0 ≤ v ∧ v ≤ p - 1) := by unfold valB at c; simpa using c
      have hp := prime_pos h1.1
      have hf : impl_single.f p w v = some (p, nzT (putZ p [] w v)) := by
        unfold impl_single.f
        rw [if_pos ⟨⟨hp.1, by omega⟩, word_ok e, by omega⟩]
      rw [hf]
      exact Ev.bind (Ev.now _) (Ev.now _)
    · refine Ev.ite_neg c ?_
      rw [if_neg c]
      exact Ev.now _
  · rw [if_neg e]
    exact Ev.ite_neg e (Ev.now _)
theorem oneR_le (p : Int) (w : List Int) (v : Int) (hw : w.length ≤ 1048576) : (oneR p w v).2.1.length ≤ 1 ∧ ∀ x ∈ (oneR p w v).2.1, x.f0.length ≤ 1048576 := by
  unfold oneR
  by_cases e : isWordB w = true
  · rw [if_pos e]
    by_cases c : valB p v = true
    · rw [if_pos c]
      refine ⟨Nat.le_trans (nzT_length _) (putZ_length p w v []), fun x hx => ?_⟩
      have := nzT_sub hx
      unfold putZ at this
      rw [List.mem_singleton.1 this]
      exact hw
    · rw [if_neg c]; simp
  · rw [if_neg e]; simp
theorem FnExactSumOfWord : laws_FnExactSumOfWord.Pure := by
  intro i0 l1 i2 w0 w2 hm hw hl
  have hf : wfB l1 = true := List.all_eq_true.2 hw
  obtain ⟨b1, b2⟩ := oneR_le i0 l1 i2 hl
  have h2' := ev_one_spec i0 l1 i2 hl
  have h3' := ev_one_impl i0 l1 i2 hf
  generalize oneR i0 l1 i2 = R at b1 b2 h2' h3'
  obtain ⟨g0, g1, c⟩ := R
  have b3 : sizeT g1 ≤ g1.length * (1048576 + 1) := sizeT_le b2
  have b4 : g1.length * (1048576 + 1) ≤ 1 * (1048576 + 1) := Nat.mul_le_mul_right _ b1
  obtain ⟨K1, h1⟩ := ev_toInt64S l1 (by omega)
  obtain ⟨K2, h2⟩ := h2'
  obtain ⟨K3, h3⟩ := h3'
  obtain ⟨K4, h4⟩ := ev_eqSumT g0 g1 (by have := b1; simp only at this; omega) b2
  obtain ⟨K5, h5⟩ := ev_eq_same l1 (by omega)
  obtain ⟨K6, h6⟩ := ev_markInt64S l1 1 (by omega) (by omega)
  obtain ⟨K7, h7⟩ := ev_markSum g1 1 (by omega) (by omega) (by have := b1; simp only at this; omega)
  obtain ⟨K8, h8⟩ := ev_heldSum g0 g1 1 (by omega) (by omega) (by have := b1; simp only at this; omega)
  exact ⟨max K1 (max K2 (max K3 (max K4 (max K5 (max K6 (max K7 K8)))))), c, _, g0, g1, _, _, _, h1 _ (by omega), h5 _ (by omega), h2 _ (by omega), h3 _ (by omega), h4 _ (by omega), h6 _ (by omega), h7 _ (by omega), h8 _ (by omega), by omega, by omega⟩
end Go.Proofs.Ytpfhbdpmafcnfaa.Pure
