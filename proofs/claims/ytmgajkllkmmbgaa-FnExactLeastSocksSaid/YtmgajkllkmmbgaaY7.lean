/- Plain lemmas over the printed functions of this seat. -/
import Derived.Test.YtmgajkllkmmbgaaY0
import Derived.Test.YtmgajkllkmmbgaaPx9
set_option linter.unusedVariables false
set_option linter.unusedSimpArgs false
namespace Go.Proofs.Ytmgajkllkmmbgaa.Pure
open Go.RowKit Go.Proofs.Ytmgajkllkmmbgaa.P Go.Proofs.YtmgajkllkmmbgaaW.PrintWords Go.Proofs.YtmgajkllkmmbgaaW.PrintLast Go.Proofs.YtmgajkllkmmbgaaW.PrintMore

theorem LeastSocks_eq (a b : Int) : spec_LeastSocks.f a b = impl_LeastSocks.f a b ∧ ∃ r, impl_LeastSocks.f a b = some r := by
  simp only [spec_LeastSocks.f, impl_LeastSocks.f, l1In_eq, within_eq, Option.bind_some]
  refine ⟨trivial, ?_⟩
  cases (decide (1 ≤ a) && decide (a ≤ 100)) <;> cases (decide (1 ≤ b) && decide (b ≤ 8)) <;> simp

end Go.Proofs.Ytmgajkllkmmbgaa.Pure
