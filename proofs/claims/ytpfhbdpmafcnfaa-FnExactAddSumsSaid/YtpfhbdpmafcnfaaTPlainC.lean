/-
  Plain lemmas on rows of rows. No program in sight.
-/
import Derived.Test.YtpfhbdpmafcnfaaTPlainA
namespace Go.Proofs.Ytpfhbdpmafcnfaa.Plain
open Go.RowKit Go.Maps Go.Proofs.YtpfhbdpmafcnfaaW.PrintWords Go.Proofs.YtpfhbdpmafcnfaaW.PrintLast Go.Proofs.YtpfhbdpmafcnfaaW.PrintMore
set_option linter.unusedVariables false
set_option linter.unusedSimpArgs false
end Go.Proofs.Ytpfhbdpmafcnfaa.Plain
