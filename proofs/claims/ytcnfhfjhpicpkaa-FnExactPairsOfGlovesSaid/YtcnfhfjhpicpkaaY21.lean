/- Plain lemmas over the printed functions of this seat. -/
import Derived.Test.YtcnfhfjhpicpkaaY2
import Derived.Test.YtcnfhfjhpicpkaaPx11
set_option linter.unusedVariables false
set_option linter.unusedSimpArgs false
namespace Go.Proofs.Ytcnfhfjhpicpkaa.Pure
open Go.RowKit Go.Proofs.Ytcnfhfjhpicpkaa.P Go.Proofs.YtcnfhfjhpicpkaaW.PrintWords Go.Proofs.YtcnfhfjhpicpkaaW.PrintLast Go.Proofs.YtcnfhfjhpicpkaaW.PrintMore

theorem PairsOfGloves_ev (l r : List Int) (hl : l.length ≤ 1048576) (hr : r.length ≤ 1048576) : ∃ v K, ∀ k, K ≤ k → spec_PairsOfGloves.f k l r = some v ∧ impl_PairsOfGloves.f k l r = some v := by
  obtain ⟨K1, h1⟩ := gvGood_ev l r (by omega) (by omega)
  obtain ⟨K2, h2⟩ := AreGloves_ev l r (by omega) (by omega)
  cases hg : gloveB l r with
  | false =>
    refine ⟨(0, false), K1 + K2, fun k hk => ?_⟩
    simp (disch := omega) only [spec_PairsOfGloves.f, impl_PairsOfGloves.f, h1, h2, hg, Option.bind_some, Bool.false_eq_true, if_false, and_self]
  | true =>
    obtain ⟨K3, h3⟩ := gvPairs_ev l r hl (gloveB_iff.1 hg).2.2.1
    obtain ⟨K4, h4⟩ := pairsG_ev l r hl (gloveB_iff.1 hg).2.2.1
    refine ⟨(zw mn 0 l r, true), K1 + K2 + K3 + K4, fun k hk => ?_⟩
    simp (disch := omega) only [spec_PairsOfGloves.f, impl_PairsOfGloves.f, h1, h2, h3, h4, hg, Option.bind_some, if_true, and_self]

end Go.Proofs.Ytcnfhfjhpicpkaa.Pure
