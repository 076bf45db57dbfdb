/- The program's Constants returns what the reference's returns: over the printed functions, for every list and number. -/
import Derived.Test.YtmgajkllkmmbgaaPx8
set_option linter.unusedVariables false
set_option linter.unusedSimpArgs false
namespace Go.Proofs.Ytmgajkllkmmbgaa.Pure
open Go.RowKit Go.Proofs.Ytmgajkllkmmbgaa.P Go.Proofs.YtmgajkllkmmbgaaW.PrintWords Go.Proofs.YtmgajkllkmmbgaaW.PrintLast
theorem FnExactConstants : laws_FnExactConstants.Pure := by
  rfl
end Go.Proofs.Ytmgajkllkmmbgaa.Pure
