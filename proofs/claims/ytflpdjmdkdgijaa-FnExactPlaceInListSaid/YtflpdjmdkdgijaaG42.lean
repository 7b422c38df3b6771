-- Written by the session's program mk.py (which runs the kit's print.py over functions and over contracts given by hand).
import Derived.Test.YtflpdjmdkdgijaaG0
namespace Go.Proofs.Ytflpdjmdkdgijaa.G
open Go.RowKit Go.Maps Go.Proofs.YtflpdjmdkdgijaaW.PrintWords Go.Proofs.YtflpdjmdkdgijaaW.PrintLast Go.Proofs.YtflpdjmdkdgijaaW.PrintMore
attribute [local go_sem] max2_int min2_int max_two min_two max_three min_three max_four min_four   -- for this text's walks alone
set_option linter.unusedVariables false
set_option linter.unusedSimpArgs false

/-! ### slices_Clip_int64_int64: function 42, by hand -/
set_option maxHeartbeats 1000000 in
set_option maxRecDepth 100000 in
theorem slices_Clip_int64_int64.calls (A0 : Option Addr) (n c0 : Nat) (w : World) (hc0 : n ≤ c0) (hm : c0 ≤ maxLen) (hnil : A0 = none → c0 = 0) :
    Calls Try.prog 42 #[.slice A0 n c0] w fun e w' => e = .returned (.slice A0 n n) ∧ w' = w := by
  cases A0 with
  | none =>
    obtain rfl : c0 = 0 := hnil rfl
    obtain rfl : n = 0 := by omega
    go_enter Try.func42, Try.ntmps42
    go_wp2
    go_ret
    exact ⟨rfl, rfl⟩
  | some ad =>
    go_enter Try.func42, Try.ntmps42
    go_wp2
    go_ret
    exact ⟨rfl, rfl⟩

end Go.Proofs.Ytflpdjmdkdgijaa.G
