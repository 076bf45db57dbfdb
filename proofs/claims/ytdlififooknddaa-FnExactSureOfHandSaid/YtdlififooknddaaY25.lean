/- Plain lemmas over the printed functions of this seat. -/
import Derived.Test.YtdlififooknddaaY1
import Derived.Test.YtdlififooknddaaPx14
set_option linter.unusedVariables false
set_option linter.unusedSimpArgs false
namespace Go.Proofs.Ytdlififooknddaa.Pure
open Go.RowKit Go.Proofs.Ytdlififooknddaa.P Go.Proofs.YtdlififooknddaaW.PrintWords Go.Proofs.YtdlififooknddaaW.PrintLast Go.Proofs.YtdlififooknddaaW.PrintMore

theorem SureOfHand_ev (l r : List Int) (a1 : Bool) (a2 : Int) (hl : l.length ≤ 1048576) (hr : r.length ≤ 1048576) : ∃ v K, ∀ k, K ≤ k → spec_SureOfHand.f k l r a1 a2 = some v ∧ impl_SureOfHand.f k l r a1 a2 = some v := by
  obtain ⟨K1, h1⟩ := gvGood_ev l r (by omega) (by omega)
  obtain ⟨K2, h2⟩ := AreGloves_ev l r (by omega) (by omega)
  obtain ⟨K3, h3⟩ := soSum_ev l (by omega)
  obtain ⟨K4, h4⟩ := soSum_ev r (by omega)
  obtain ⟨K5, h5⟩ := total_ev l (by omega)
  obtain ⟨K6, h6⟩ := total_ev r (by omega)
  refine ⟨if gloveB l r = true ∧ (decide (1 ≤ a2) && decide (a2 ≤ if a1 = true then wsum 0 r else wsum 0 l)) = true then (wrap64 ((if a1 = true then wsum 0 l else wsum 0 r) + a2), true) else (0, false), K1 + K2 + K3 + K4 + K5 + K6, fun k hk => ?_⟩
  simp (disch := omega) only [spec_SureOfHand.f, impl_SureOfHand.f, l1In_eq, within_eq, h1, h2, h3, h4, h5, h6, Option.bind_some]
  cases gloveB l r <;> cases a1
  · simp
  · simp
  · simp only [Bool.false_eq_true, if_false, true_and, if_true]
    cases (decide (1 ≤ a2) && decide (a2 ≤ wsum 0 l)) <;> simp
  · simp only [if_true, true_and]
    cases (decide (1 ≤ a2) && decide (a2 ≤ wsum 0 r)) <;> simp

end Go.Proofs.Ytdlififooknddaa.Pure
