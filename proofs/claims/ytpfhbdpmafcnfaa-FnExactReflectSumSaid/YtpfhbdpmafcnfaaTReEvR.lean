/-
  Plain laws of rotations and least rotations. No condition but sizes.
-/
import Derived.Test.YtpfhbdpmafcnfaaTEvW
import Derived.Test.YtpfhbdpmafcnfaaTPlainR
import Derived.Test.YtpfhbdpmafcnfaaTReGgT
import Derived.Test.YtpfhbdpmafcnfaaTReGgK
namespace Go.Proofs.Ytpfhbdpmafcnfaa.Pure
open Go.RowKit Go.Proofs.Ytpfhbdpmafcnfaa.G Go.Proofs.Ytpfhbdpmafcnfaa.Plain Go.Proofs.YtpfhbdpmafcnfaaW.PrintWords Go.Proofs.YtpfhbdpmafcnfaaW.PrintLast

set_option linter.unusedVariables false
theorem slices_Clone_f {l : List Int} (h : l.length < 17592186044416) : slices_Clone_int64_int64.f l = some l := by
  unfold slices_Clone_int64_int64.f; rw [if_pos h]
end Go.Proofs.Ytpfhbdpmafcnfaa.Pure
