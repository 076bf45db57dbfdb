/- The program's LeastSocks returns what the reference's returns: over the printed functions, for every list and number. -/
import Derived.Test.YtmgajkllkmmbgaaPx9
import Derived.Test.YtmgajkllkmmbgaaY7
set_option linter.unusedVariables false
set_option linter.unusedSimpArgs false
namespace Go.Proofs.Ytmgajkllkmmbgaa.Pure
open Go.RowKit Go.Proofs.Ytmgajkllkmmbgaa.P Go.Proofs.YtmgajkllkmmbgaaW.PrintWords Go.Proofs.YtmgajkllkmmbgaaW.PrintLast
theorem FnExactLeastSocks : laws_FnExactLeastSocks.Pure := by
  intro a0 a1 _ _
  obtain ⟨e, r, h⟩ := LeastSocks_eq a0 a1
  unfold laws_FnExactLeastSocks.f
  rw [e, h]
  simp
end Go.Proofs.Ytmgajkllkmmbgaa.Pure
