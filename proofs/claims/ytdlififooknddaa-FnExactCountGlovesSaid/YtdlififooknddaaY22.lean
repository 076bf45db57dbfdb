/- Plain lemmas over the printed functions of this seat. -/
import Derived.Test.YtdlififooknddaaY1
import Derived.Test.YtdlififooknddaaPx11
set_option linter.unusedVariables false
set_option linter.unusedSimpArgs false
namespace Go.Proofs.Ytdlififooknddaa.Pure
open Go.RowKit Go.Proofs.Ytdlififooknddaa.P Go.Proofs.YtdlififooknddaaW.PrintWords Go.Proofs.YtdlififooknddaaW.PrintLast Go.Proofs.YtdlififooknddaaW.PrintMore

theorem CountGloves_ev (l r : List Int) (hl : l.length ≤ 1048576) (hr : r.length ≤ 1048576) : ∃ v K, ∀ k, K ≤ k → spec_CountGloves.f k l r = some v ∧ impl_CountGloves.f k l r = some v := by
  obtain ⟨K1, h1⟩ := gvGood_ev l r (by omega) (by omega)
  obtain ⟨K2, h2⟩ := AreGloves_ev l r (by omega) (by omega)
  obtain ⟨K3, h3⟩ := soSum_ev l (by omega)
  obtain ⟨K4, h4⟩ := soSum_ev r (by omega)
  obtain ⟨K5, h5⟩ := total_ev l (by omega)
  obtain ⟨K6, h6⟩ := total_ev r (by omega)
  refine ⟨if gloveB l r = true then (wsum 0 l, wsum 0 r, true) else (0, 0, false), K1 + K2 + K3 + K4 + K5 + K6, fun k hk => ?_⟩
  simp (disch := omega) only [spec_CountGloves.f, impl_CountGloves.f, h1, h2, h3, h4, h5, h6, Option.bind_some]
  cases gloveB l r <;> simp

end Go.Proofs.Ytdlififooknddaa.Pure
