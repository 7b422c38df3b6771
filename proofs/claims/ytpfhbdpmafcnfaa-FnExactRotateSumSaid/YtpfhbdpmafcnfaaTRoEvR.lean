/-
  Plain laws of rotations and least rotations. No condition but sizes.
-/
import Derived.Test.YtpfhbdpmafcnfaaTEvW
import Derived.Test.YtpfhbdpmafcnfaaTPlainR
import Derived.Test.YtpfhbdpmafcnfaaTRoGgT
import Derived.Test.YtpfhbdpmafcnfaaTRoGgK
namespace Go.Proofs.Ytpfhbdpmafcnfaa.Pure
open Go.RowKit Go.Proofs.Ytpfhbdpmafcnfaa.G Go.Proofs.Ytpfhbdpmafcnfaa.Plain Go.Proofs.YtpfhbdpmafcnfaaW.PrintWords Go.Proofs.YtpfhbdpmafcnfaaW.PrintLast

theorem spec_l01Own_f {l : List Int} (h : l.length < 17592186044416) : spec_l01Own.f l = some l := by
  unfold spec_l01Own.f
  simp only [Option.bind_some]
  rw [if_pos (by simpa using h)]
  rfl
theorem ev_spec_l01Rotate (w : List Int) (k : Nat) (hk : k ≤ w.length) (hl : w.length ≤ 1048576) : Ev (fun n => spec_l01Rotate.f n w k) (rotL w k) := by
  unfold spec_l01Rotate.f
  refine Ev.ite_pos (by omega) (Ev.ite_pos (by omega) ?_)
  rw [Int.toNat_natCast]
  refine Ev.bind (Ev.const (spec_l01Own_f (by rw [List.length_drop]; omega))) (Ev.ite_pos (by rw [List.length_drop, List.length_take]; omega) ?_)
  exact Ev.bind (ev_spec_l01Normal _ (by rw [List.length_append, List.length_drop, List.length_take]; omega)) (Ev.now _)
theorem impl_rotated_f (w : List Int) (k : Nat) (hk : k ≤ w.length) (hl : w.length ≤ 1048576) (hw : wfB w = true) : impl_rotated.f w k = some (rotL w k) := by
  unfold impl_rotated.f
  rw [if_pos (by omega), if_pos (by omega), Int.toNat_natCast]
  have h1 : slices_Concat_int64_int64.f [w.drop k, w.take k] = some (w.drop k ++ w.take k) := by
    unfold slices_Concat_int64_int64.f
    have e : [w.drop k, w.take k].flatten = w.drop k ++ w.take k := by simp only [List.flatten_cons, List.flatten_nil, List.append_nil]
    rw [e, if_pos (by rw [List.length_append, List.length_drop, List.length_take]; omega)]
  rw [h1]
  simp only [Option.bind_some]
  rw [impl_normal_f (wfB_rot hw k) (by rw [List.length_append, List.length_drop, List.length_take]; omega)]
  rfl
set_option linter.unusedVariables false
end Go.Proofs.Ytpfhbdpmafcnfaa.Pure
