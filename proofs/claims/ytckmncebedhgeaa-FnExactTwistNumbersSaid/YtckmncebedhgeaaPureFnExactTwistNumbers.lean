/-
  The given law laws.FnExactTwistNumbers returns true for every list: the program's TwistNumbers answers as the reference's.
-/
import Derived.Test.YtckmncebedhgeaaEvE
import Derived.Test.YtckmncebedhgeaaEvV
import Derived.Test.YtckmncebedhgeaaGlTwistNumbers
namespace Go.Proofs.Ytckmncebedhgeaa.Pure
open Go.RowKit Go.Proofs.Ytckmncebedhgeaa.G Go.Proofs.Ytckmncebedhgeaa.Plain Go.Proofs.YtckmncebedhgeaaW.PrintWords Go.Proofs.YtckmncebedhgeaaW.PrintLast Go.Proofs.YtckmncebedhgeaaW.PrintMore
set_option linter.unusedVariables false

def keepL (s : Int) (n : Nat) : List Bool := (List.range n).map fun (i : Nat) => qT s (i : Int)
theorem keepL_succ (s : Int) (n : Nat) : keepL s (n + 1) = keepL s n ++ [qT s (n : Int)] := by simp [keepL, List.range_succ]
theorem keepL_length (s : Int) (n : Nat) : (keepL s n).length = n := by simp [keepL]
theorem u64_of {n : Nat} (h : n ≤ 64) : IntKind.u64.wrap (n : Int) = (n : Int) := by
  have := h
  unfold IntKind.wrap
  simp [IntKind.signed, IntKind.bits]
  omega
theorem keep_loop (s : Int) (m : Nat) (hm : m ≤ 6) : ∀ (d k : Nat), k ≤ m → m - k = d → Ev (fun n => spec_l03Keep.l0 n s m (keepL s k) k) (keepL s m) := by
  intro d
  induction d with
  | zero =>
    intro k hk hd
    obtain rfl : k = m := by omega
    exact Ev.step (fun n => by rw [spec_l03Keep.l0]) (Ev.ite_neg (by omega) (Ev.now _))
  | succ d ih =>
    intro k hk hd
    have hn := ih (k + 1) (by omega) (by omega)
    rw [keepL_succ] at hn
    unfold qT at hn
    have hl := keepL_length s k
    refine Ev.step (fun n => by rw [spec_l03Keep.l0]) ?_
    rw [u64_of (by omega), wrap_of (x := (k : Int) + 1) (by omega) (by omega)]
    exact Ev.ite_pos (by omega) (Ev.ite_pos (by omega) (Ev.ite_pos (by omega) hn))
theorem ev_spec_l03Keep (s : Int) (m : Nat) (hm : m ≤ 6) : Ev (fun n => spec_l03Keep.f n s m) (keepL s m) := keep_loop s m hm m 0 (by omega) (by omega)
def cN (w : List Int) (s : Nat) : Nat := max (circN w (qT (s : Int))) 1
def twR (w : List Int) : Nat → Nat → List Int → List Int
  | 0, _, o => o
  | d + 1, s, o => twR w d (s + 1) (o.set (cN w s) (wrap64 (rd o (cN w s : Int) + 1)))
theorem twR_length (w : List Int) : ∀ d s o, (twR w d s o).length = o.length
  | 0, _, _ => rfl
  | d + 1, s, o => by unfold twR; rw [twR_length w d]; simp
theorem cN_le {w : List Int} (h : isWordB w = true) (s : Nat) : cN w s < w.length / 2 + 2 := by
  have := circN_chords h (qT (s : Int))
  unfold cN
  omega
theorem ev_twF {w : List Int} (h : isWordB w = true) : ∀ (d s : Nat) (o : List Int), o.length = w.length / 2 + 2 → Ev (fun n => twF n w d s o) (twR w d s o)
  | 0, _, _, _ => Ev.now _
  | d + 1, s, o, ho => by
    have hl := word_length h
    have hc := cN_le h s
    unfold twF twR
    refine Ev.bind (ev_impl_circles w h (fun _ => qS (s : Int)) (qT (s : Int)) (fun i hi => Ev.const (by unfold qS; exact if_pos ⟨by omega, by omega⟩))) ?_
    have e : impl_weights.f o ((max (circN w (qT (s : Int))) 1 : Nat) : Int) 1 = some (o.set (cN w s) (wrap64 (rd o (cN w s : Int) + 1))) := by
      have ec : ((max (circN w (qT (s : Int))) 1 : Nat) : Int) = ((cN w s : Nat) : Int) := rfl
      rw [ec]
      unfold impl_weights.f
      rw [if_pos (by omega), if_pos (show ((cN w s : Nat) : Int) < (o.length : Int) by omega), Int.toNat_natCast]
    exact Ev.bind (Ev.const e) (ev_twF h d (s + 1) _ (by rw [List.length_set]; exact ho))
theorem shl_pow {N : Nat} (h : N ≤ 6) : shl .i64 1 (N : Int) = ((2 ^ N : Nat) : Int) := by
  unfold shl
  have : N = 0 ∨ N = 1 ∨ N = 2 ∨ N = 3 ∨ N = 4 ∨ N = 5 ∨ N = 6 := by omega
  rcases this with rfl | rfl | rfl | rfl | rfl | rfl | rfl <;> rfl
theorem pow_le {N : Nat} (h : N ≤ 6) : 2 ^ N ≤ 64 := Nat.pow_le_pow_right (n := 2) (by decide) h
theorem tw_spec_loop {w : List Int} (h : isWordB w = true) : ∀ (d s : Nat) (o : List Int), s + d = 2 ^ (w.length / 2) → o.length = w.length / 2 + 2 → Ev (fun n => spec_TwistNumbers.l0 n w ((w.length / 2 : Nat) : Int) o s) (twR w d s o, 0) := by
  have hl := word_length h
  have hp := pow_le (N := w.length / 2) (by omega)
  have hs := shl_pow (N := w.length / 2) (by omega)
  intro d
  induction d with
  | zero =>
    intro s o hd ho
    refine Ev.step (fun n => by rw [spec_TwistNumbers.l0]) ?_
    rw [u64_of (by omega), hs]
    exact Ev.ite_pos (by omega) (Ev.ite_neg (by omega) (Ev.now _))
  | succ d ih =>
    intro s o hd ho
    have hc := cN_le h s
    have hn := ih (s + 1) (o.set (cN w s) (wrap64 (rd o (cN w s : Int) + 1))) (by omega) (by rw [List.length_set]; exact ho)
    have ec : ((max (circN w (qT (s : Int))) 1 : Nat) : Int) = ((cN w s : Nat) : Int) := rfl
    refine Ev.step (fun n => by rw [spec_TwistNumbers.l0]) ?_
    rw [u64_of (by omega), hs]
    refine Ev.ite_pos (by omega) (Ev.ite_pos (by omega) (Ev.bind (ev_spec_l03Keep (s : Int) (w.length / 2) (by omega)) (Ev.bind (ev_spec_l05Circles w h (keepL (s : Int) (w.length / 2)) (keepL_length _ _) (qT (s : Int)) (fun i hi => ?_)) ?_)))
    · unfold keepL
      rw [List.getD_eq_getElem?_getD, List.getElem?_map, List.getElem?_range hi]
      rfl
    · rw [ec, wrap_of (x := (s : Int) + 1) (by omega) (by omega), Int.toNat_natCast]
      unfold twR
      exact Ev.ite_pos (by omega) (Ev.ite_pos (by omega) hn)
/-- What TwistNumbers answers. -/
def TwistNumbersR (w : List Int) : List Int × Int := if isWordB w = true then (twR w (2 ^ (w.length / 2)) 0 (List.replicate (w.length / 2 + 2) 0), 0) else ([], 1)
theorem ev_spec_TwistNumbers (w : List Int) (_ : w.length ≤ 1048576) : Ev (fun n => spec_TwistNumbers.f n w) (TwistNumbersR w) := by
  unfold spec_TwistNumbers.f TwistNumbersR
  refine Ev.bind (ev_spec_l01Is w) ?_
  by_cases h : isWordB w = true
  · have hl := word_length h
    have e1 : wrap64 ((w.length : Int) / 2) = ((w.length / 2 : Nat) : Int) := by rw [wrap_of (by omega) (by omega)]; omega
    have e2 : wrap64 (((w.length / 2 : Nat) : Int) + 2) = ((w.length / 2 + 2 : Nat) : Int) := by rw [wrap_of (by omega) (by omega)]; omega
    rw [if_pos h, e1, e2, Int.toNat_natCast]
    refine Ev.ite_pos h (Ev.ite_pos (by omega) (Ev.ite_pos (by omega) ?_))
    exact tw_spec_loop h _ 0 _ (by omega) (by simp)
  · rw [if_neg h]
    exact Ev.ite_neg h (Ev.now _)
theorem ev_impl_TwistNumbers (w : List Int) (_ : w.length ≤ 1048576) (hw : wfB w = true) : Ev (fun n => impl_TwistNumbers.f n w) (TwistNumbersR w) := by
  unfold impl_TwistNumbers.f impl_changedWord_at_impl_TwistNumbers_1.f TwistNumbersR
  refine Ev.bind (a := TwistNumbersR w) (Ev.bind (ev_impl_IsWord w hw) ?_) (Ev.now _)
  unfold TwistNumbersR
  by_cases h : isWordB w = true
  · have hl := word_length h
    refine Ev.ite_pos h ?_
    rw [if_pos h]
    refine Ev.bind (a := twR w (2 ^ (w.length / 2)) 0 (List.replicate (w.length / 2 + 2) 0)) ?_ (Ev.now _)
    unfold impl_TwistNumbers_1.f
    exact Ev.ite_pos hl (ev_twF h _ _ _ (by simp))
  · refine Ev.ite_neg h ?_
    rw [if_neg h]
    exact Ev.now _
theorem TwistNumbersR_le (w : List Int) (_ : w.length ≤ 1048576) : (TwistNumbersR w).1.length ≤ 12 := by
  unfold TwistNumbersR
  split
  · rename_i h
    have := word_length h
    rw [twR_length]
    simp; omega
  · simp
theorem FnExactTwistNumbers : laws_FnExactTwistNumbers.Pure := by
  intro l0 hml0 hsl0 hwl0
  have hfl0 : wfB l0 = true := List.all_eq_true.2 hwl0
  refine Ev.rounds ?_
  unfold laws_FnExactTwistNumbers.f
  by_cases hl0 : l0.length ≤ 1048576
  rotate_left
  · exact Ev.ite_pos (by omega) (Ev.now _)
  have hr := TwistNumbersR_le l0 hl0
  have S := ev_spec_TwistNumbers l0 hl0
  have I := ev_impl_TwistNumbers l0 hl0 hfl0
  have Tl0 := ev_toInt64S l0 (by omega)
  have El0 := ev_eq_same l0 (by omega)
  have Ml0 := ev_markInt64S l0 1 (by omega) (by omega)
  have ER := ev_eq_same (TwistNumbersR l0).1 (by omega)
  have MR := ev_markInt64S (TwistNumbersR l0).1 1 (by omega) (by omega)
  have HR := ev_heldInt64S (TwistNumbersR l0).1.length 1 (by omega) (by omega)
  repeat (first
    | exact Ev.now _
    | refine Ev.bind Tl0 ?_
    | refine Ev.bind S ?_
    | refine Ev.bind I ?_
    | refine Ev.bind El0 ?_
    | refine Ev.bind Ml0 ?_
    | refine Ev.bind ER ?_
    | refine Ev.bind MR ?_
    | refine Ev.bind HR ?_
    | refine Ev.ite_pos rfl ?_
    | (refine Ev.ite_neg ?_ ?_; focus (first | (simp; done) | (simp; omega) | omega))
    | (apply Ev.step; focus (intro n; first | rw [laws_FnExactTwistNumbers.j0] | rw [laws_FnExactTwistNumbers.j1] | rw [laws_FnExactTwistNumbers.j2])))
end Go.Proofs.Ytckmncebedhgeaa.Pure
