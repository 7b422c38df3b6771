/-
  The given law laws.FnExactConstants returns true: its constants are those of the reference. No condition.
-/
import Derived.Test.YtdhnapkejhkjfaaPFnExactConstantsx1
namespace Go.Proofs.Ytdhnapkejhkjfaa.Pure
open Go.RowKit Go.Proofs.Ytdhnapkejhkjfaa.PFnExactConstants Go.Proofs.YtdhnapkejhkjfaaW.PrintWords Go.Proofs.YtdhnapkejhkjfaaW.PrintLast

theorem FnExactConstants : laws_FnExactConstants.Pure := by
  rfl

end Go.Proofs.Ytdhnapkejhkjfaa.Pure
