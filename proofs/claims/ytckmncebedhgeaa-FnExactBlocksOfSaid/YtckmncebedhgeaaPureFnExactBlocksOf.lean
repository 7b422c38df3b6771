/-
  The given law laws.FnExactBlocksOf returns true for every list: the program's BlocksOf answers as the reference's. No condition.
-/
import Derived.Test.YtckmncebedhgeaaEvM
import Derived.Test.YtckmncebedhgeaaEvW
import Derived.Test.YtckmncebedhgeaaPlainP
import Derived.Test.YtckmncebedhgeaaGgS
import Derived.Test.YtckmncebedhgeaaGlBlocksOf
namespace Go.Proofs.Ytckmncebedhgeaa.Pure
open Go.RowKit Go.Proofs.Ytckmncebedhgeaa.G Go.Proofs.Ytckmncebedhgeaa.Plain Go.Proofs.YtckmncebedhgeaaW.PrintWords Go.Proofs.YtckmncebedhgeaaW.PrintLast

theorem ev_spec_l02Code (w : List Int) : Ev (fun n => spec_l02Code.f n w) (if isWordB w = true then 0 else 1) := by
  unfold spec_l02Code.f
  refine Ev.bind (ev_spec_l01Is w) ?_
  by_cases h : isWordB w = true
  · refine Ev.ite_pos h ?_
    rw [if_pos h]; exact Ev.now _
  · refine Ev.ite_neg h ?_
    rw [if_neg h]; exact Ev.now _
/-- What BlocksOf answers. -/
def BlocksOfR (w : List Int) : List (List Int) × Int := if isWordB w = true then (blocksF w w.length 0 0 [], 0) else ([], 1)
theorem blocks_len (w : List Int) (h : w.length ≤ 12) {out : List (List Int)} {k : Nat} (ho : out.length ≤ k) (hk : k ≤ w.length) : out.length < 5864062014805 := by omega
theorem impl_blocks_loop (w : List Int) (h : isWordB w = true) : ∀ (d k b : Nat) (out : List (List Int)), k + d = w.length → b ≤ k → twiceB (w.take b) = true → out.length ≤ k →
    Ev (fun n => impl_BlocksOf.l0 n w out b ((k : Int) + 1)) (blocksF w d k b out, 0) := by
  have hlen := word_length h
  intro d
  induction d with
  | zero =>
    intro k b out hk hb ht ho
    refine Ev.step (fun n => by rw [impl_BlocksOf.l0]) ?_
    exact Ev.ite_neg (by omega) (Ev.now _)
  | succ d ih =>
    intro k b out hk hb ht ho
    refine Ev.step (fun n => by rw [impl_BlocksOf.l0]) ?_
    refine Ev.ite_pos (by omega) (Ev.ite_pos (by omega) (Ev.ite_pos (by omega) ?_))
    have e1 : ((k : Int) + 1).toNat = k + 1 := by omega
    have e2 : ((b : Int)).toNat = b := by omega
    have e3 : ((k : Int) + 1) = ((k + 1 : Nat) : Int) := by omega
    rw [e1, e2]
    have hwf : wfB ((w.take (k + 1)).drop b) = true := List.all_eq_true.2 fun x hx => List.all_eq_true.1 (word_wf h) x (List.mem_of_mem_take (List.mem_of_mem_drop hx))
    refine Ev.bind (Ev.const (impl_twice_f hwf)) ?_
    rw [window_whole (word_twice h) ht (by omega), wrap_of (by omega) (by omega), blocksF, e3]
    by_cases c : twiceB (w.take (k + 1)) = true
    · rw [if_pos c]
      refine Ev.ite_pos c (Ev.bind (Ev.const (impl_normal_f hwf (by rw [List.length_drop, List.length_take]; omega))) (Ev.ite_pos (by omega) ?_))
      exact ih (k + 1) (k + 1) _ (by omega) (Nat.le_refl _) c (by simp; omega)
    · rw [if_neg c]
      refine Ev.ite_neg c ?_
      exact ih (k + 1) b out (by omega) (by omega) ht (by omega)
theorem ev_impl_BlocksOf (w : List Int) (hw : wfB w = true) : Ev (fun n => impl_BlocksOf.f n w) (BlocksOfR w) := by
  unfold impl_BlocksOf.f BlocksOfR
  refine Ev.bind (ev_impl_IsWord w hw) ?_
  by_cases h : isWordB w = true
  · refine Ev.ite_pos h ?_
    rw [if_pos h]
    exact impl_blocks_loop w h w.length 0 0 [] (by omega) (Nat.le_refl _) rfl (Nat.le_refl _)
  · refine Ev.ite_neg h ?_
    rw [if_neg h]
    exact Ev.now _
theorem spec_blocks_loop (w : List Int) (h : isWordB w = true) : ∀ (d k b : Nat) (out : List (List Int)), k + d = w.length → b ≤ k → out.length ≤ k →
    Ev (fun n => spec_BlocksOf.l0 n w out ((onces (w.take k) : Nat) : Int) b (flagsL w.length (w.take k)) k) (blocksF w d k b out, 0) := by
  have hlen := word_length h
  intro d
  induction d with
  | zero =>
    intro k b out hk hb ho
    refine Ev.step (fun n => by rw [spec_BlocksOf.l0]) ?_
    exact Ev.ite_neg (by omega) (Ev.now _)
  | succ d ih =>
    intro k b out hk hb ho
    have hlt : k < w.length := by omega
    have hm := word_mem h (List.getElem_mem hlt)
    have hc : w.count w[k] = 2 := count_of_twice (word_twice h) (List.getElem_mem hlt)
    have hone : onces (w.take k) ≤ 12 := Nat.le_trans List.countP_le_length (by rw [List.length_take]; omega)
    have hz := onces_zero (word_twice h) (k := k + 1)
    refine Ev.step (fun n => by rw [spec_BlocksOf.l0]) ?_
    rw [rd_at hlt, flagsL_length]
    refine Ev.ite_pos (by omega) (Ev.ite_pos (by omega) (Ev.ite_pos hm.1 (Ev.ite_pos (by omega) ?_)))
    have hg : rdOf false (flagsL w.length (w.take k)) w[k] = decide (w[k] ∈ w.take k) := flagsL_get hm.1 (by omega)
    rw [hg]
    have e1 : (wrap64 ((k : Int) + 1)) = ((k + 1 : Nat) : Int) := by rw [wrap_of (by omega) (by omega)]; omega
    rw [e1]
    simp only [Int.toNat_natCast]
    rw [blocksF]
    have hle : ((w.take (k + 1)).drop b).length ≤ 12 := by rw [List.length_drop, List.length_take]; omega
    have hn := List.take_succ_eq_append_getElem hlt
    by_cases c : w[k] ∈ w.take k
    · have hc1 : (w.take k).count w[k] = 1 := by
        have h1 : 1 ≤ (w.take k).count w[k] := List.count_pos_iff.2 c
        have h2 : (w.take (k + 1)).count w[k] ≤ 2 := by rw [← hc]; exact (List.take_sublist _ _).count_le _
        rw [hn, List.count_append] at h2
        simp at h2
        omega
      have ho1 : onces (w.take (k + 1)) + 1 = onces (w.take k) := by rw [hn]; exact onces_old hc1
      have e3 : wrap64 (((onces (w.take k) : Nat) : Int) - 1) = ((onces (w.take (k + 1)) : Nat) : Int) := by rw [wrap_of (by omega) (by omega)]; omega
      refine Ev.ite_pos (decide_eq_true c) ?_
      rw [e3, ← flagsL_keep hlt c]
      by_cases t : twiceB (w.take (k + 1)) = true
      · rw [if_pos t]
        have hz1 := hz.2 t
        refine Ev.ite_pos (by omega) (Ev.ite_pos (by omega) (Ev.ite_pos (by omega) (Ev.ite_pos (by omega) (Ev.bind (ev_spec_l01Normal _ (by omega)) (Ev.ite_pos (by omega) ?_)))))
        exact ih (k + 1) (k + 1) _ (by omega) (Nat.le_refl _) (by simp; omega)
      · rw [if_neg t]
        have hz1 : onces (w.take (k + 1)) ≠ 0 := fun e => t (hz.1 e)
        refine Ev.ite_neg (by omega) ?_
        exact ih (k + 1) b out (by omega) (by omega) (by omega)
    · have ho1 : onces (w.take (k + 1)) = onces (w.take k) + 1 := by rw [hn]; exact onces_new c
      have e3 : wrap64 (((onces (w.take k) : Nat) : Int) + 1) = ((onces (w.take (k + 1)) : Nat) : Int) := by rw [wrap_of (by omega) (by omega)]; omega
      have ne0 : ((onces (w.take (k + 1)) : Nat) : Int) ≠ 0 := fun e => (Nat.succ_ne_zero _) (ho1.symm.trans (Int.ofNat_eq_zero.1 e))
      have t : ¬ twiceB (w.take (k + 1)) = true := fun t => (Nat.succ_ne_zero _) (ho1.symm.trans (hz.2 t))
      refine Ev.ite_neg (by simpa using c) ?_
      rw [if_neg t, e3, flagsL_set hlt hm.1]
      refine Ev.bind (Ev.now _) (Ev.ite_neg ne0 ?_)
      exact ih (k + 1) b out (by omega) (by omega) (by omega)
theorem ev_spec_BlocksOf (w : List Int) : Ev (fun n => spec_BlocksOf.f n w) (BlocksOfR w) := by
  unfold spec_BlocksOf.f BlocksOfR
  refine Ev.bind (ev_spec_l02Code w) ?_
  by_cases h : isWordB w = true
  · have hlen := word_length h
    simp only [if_pos h]
    refine Ev.ite_pos trivial (Ev.ite_pos (by omega) (Ev.ite_pos (by omega) ?_))
    rw [Int.toNat_natCast]
    have h2 := spec_blocks_loop w h w.length 0 0 [] (by omega) (Nat.le_refl _) (Nat.le_refl _)
    rw [List.take_zero, onces_nil, flagsL_nil] at h2
    exact h2
  · simp only [if_neg h]
    exact Ev.ite_neg (by decide) (Ev.now _)
theorem BlocksOfR_le (w : List Int) : (BlocksOfR w).1.length ≤ 12 ∧ ∀ r ∈ (BlocksOfR w).1, r.length ≤ 12 := by
  unfold BlocksOfR
  by_cases h : isWordB w = true
  · rw [if_pos h]
    have := word_length h
    have h2 := blocksF_le w w.length 0 0 [] 12 (fun r hr => by simp at hr) (by omega)
    refine ⟨?_, h2.2⟩
    have := h2.1
    simp at this
    simp only
    omega
  · rw [if_neg h]
    exact ⟨by simp, fun r hr => by simp at hr⟩
theorem FnExactBlocksOf : laws_FnExactBlocksOf.Pure := by
  intro l0 hm hs hw hl
  have hf : wfB l0 = true := List.all_eq_true.2 hw
  obtain ⟨b1, b2⟩ := BlocksOfR_le l0
  have b3 := total_le b2
  obtain ⟨K1, h1⟩ := ev_spec_BlocksOf l0
  obtain ⟨K2, h2⟩ := ev_impl_BlocksOf l0 hf
  obtain ⟨K3, h3⟩ := ev_eqSS_same (BlocksOfR l0).1 (by omega) (fun r hr => by have := b2 r hr; omega)
  obtain ⟨K4, h4⟩ := ev_markSS (BlocksOfR l0).1 1 (by omega) (by omega) (by omega)
  obtain ⟨K5, h5⟩ := ev_heldSS (BlocksOfR l0).1 1 (by omega) (by omega) (by omega)
  obtain ⟨K6, h6⟩ := ev_toInt64S l0 (by omega)
  obtain ⟨K7, h7⟩ := ev_eq_same l0 (by omega)
  obtain ⟨K8, h8⟩ := ev_markInt64S l0 1 (by omega) (by omega)
  refine ⟨max K1 (max K2 (max K3 (max K4 (max K5 (max K6 (max K7 K8)))))), _, _, _, _, _, _, h1 _ (by omega), h2 _ (by omega), h3 _ (by omega), h4 _ (by omega), h5 _ (by omega), by omega, h6 _ (by omega), h7 _ (by omega), h8 _ (by omega), by omega⟩
end Go.Proofs.Ytckmncebedhgeaa.Pure
