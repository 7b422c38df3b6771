-- Written by the session's program mk.py (which runs the kit's print.py over functions and over contracts given by hand).
import Derived.Test.YtpfhbdpmafcnfaaTG0
import Derived.Test.YtpfhbdpmafcnfaaTGgW
import Derived.Test.YtpfhbdpmafcnfaaTGgZ
namespace Go.Proofs.Ytpfhbdpmafcnfaa.G
open Go.RowKit Go.Maps Go.Proofs.YtpfhbdpmafcnfaaW.PrintWords Go.Proofs.YtpfhbdpmafcnfaaW.PrintLast Go.Proofs.YtpfhbdpmafcnfaaW.PrintMore
attribute [local go_sem] max2_int min2_int max_two min_two max_three min_three max_four min_four   -- for this text's walks alone
set_option linter.unusedVariables false
set_option linter.unusedSimpArgs false
def limR (p : Int) (xs : List S89) : Int × List S89 × Int := if 200 < xs.length then (0, [], 3) else (p, xs, 0)
set_option maxHeartbeats 4000000 in
set_option maxRecDepth 100000 in
theorem impl_limited_S.calls (a0 : Int) (v : Value) (xs : List S89) (w0 w : World) (hB : Below w0.heap.size w0 w) (hS : Kd.S k89 89 w w0.heap.size (fun _ => True) v xs) :
  Calls Try.prog 100 #[.agg #[.int .i64 a0, v]] w fun e w' => ∃ v', e = .returned (.tuple #[.agg #[.int .i64 (limR a0 xs).1, v'], .int .i64 (limR a0 xs).2.2]) ∧ Kd.S k89 89 w' w0.heap.size (fun _ => True) v' (limR a0 xs).2.1 ∧ Below w0.heap.size w0 w' ∧ Below w.heap.size w w' := by
 have hu49 := Try.underlying49
 obtain ⟨A, c, rfl⟩ := Kd.S_slice hS
 have HS := Aside0.mk hS
 have HB := Aside0.mk hB
 have k1 := blk_alloc (blk_new w (.cells #[.int .i64 a0, .slice A xs.length c] 49)) (.cells #[.int .i64 0, .slice none 0 0] 49)
 have k2 := blk_new (w.alloc (.cells #[.int .i64 a0, .slice A xs.length c] 49)) (.cells #[.int .i64 0, .slice none 0 0] 49)
 have s2 : (w.alloc (.cells #[.int .i64 a0, .slice A xs.length c] 49)).heap.size = w.heap.size + 1 := by simp
 rw [s2] at k2
 have K1 := Aside0.mk k1
 have K2 := Aside0.mk k2
 clear hS hB k1 k2 s2
 by_cases hc : 200 < xs.length
 ·have e0 : limR a0 xs = (0, [], 3) := by unfold limR; rw [if_pos hc]
  have hd : decide ((xs.length : Int) > 200) = true := decide_eq_true (by omega)
  have hd2 : decide ((200 : Int) < (xs.length : Int)) = true := decide_eq_true (by omega)
  have hd3 : decide (200 < xs.length) = true := decide_eq_true hc
  rw [e0]
  clear hc e0
  go_enter Try.func100, Try.ntmps100
  go_wp2
  refine bodyPost_ret (results_ct rfl _ _ (w.heap.size + 1) 49 #[.int .i64 0, .slice none 0 0] (0, 0) _ rfl K2.out Try.underlying49 rfl (by kernel_rfl)) rfl ?_
  exact ⟨_, rfl, Kd.S_nil _ _ _ _ _, below_alloc (below_alloc HB.out _) _, below_alloc (below_alloc (Below.refl _ _) _) _⟩
 have e0 : limR a0 xs = (a0, xs, 0) := by unfold limR; rw [if_neg hc]
 have hd : decide ((xs.length : Int) > 200) = false := decide_eq_false (by omega)
 have hd2 : decide ((200 : Int) < (xs.length : Int)) = false := decide_eq_false (by omega)
 have hd3 : decide (200 < xs.length) = false := decide_eq_false hc
 rw [e0]
 clear hc e0
 have k3 := blk_new (w.alloc (.cells #[.int .i64 a0, .slice A xs.length c] 49)) (.cells #[.int .i64 a0, .slice A xs.length c] 49)
 have s2 : (w.alloc (.cells #[.int .i64 a0, .slice A xs.length c] 49)).heap.size = w.heap.size + 1 := by simp
 rw [s2] at k3
 have K3 := Aside0.mk k3
 clear k3 s2
 go_enter Try.func100, Try.ntmps100
 go_wp2
 refine bodyPost_ret (results_ct rfl _ _ (w.heap.size + 1) 49 #[.int .i64 a0, .slice A xs.length c] (0, 0) _ rfl K3.out Try.underlying49 rfl (by kernel_rfl)) rfl ?_
 exact ⟨_, rfl, Kd.S_alloc (Kd.S_alloc HS.out _) _, below_alloc (below_alloc HB.out _) _, below_alloc (below_alloc (Below.refl _ _) _) _⟩
end Go.Proofs.Ytpfhbdpmafcnfaa.G
