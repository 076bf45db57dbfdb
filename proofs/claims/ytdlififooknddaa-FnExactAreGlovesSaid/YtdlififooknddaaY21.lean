/- Plain lemmas over the printed functions of this seat. -/
import Derived.Test.YtdlififooknddaaY1
import Derived.Test.YtdlififooknddaaPx10
set_option linter.unusedVariables false
set_option linter.unusedSimpArgs false
namespace Go.Proofs.Ytdlififooknddaa.Pure
open Go.RowKit Go.Proofs.Ytdlififooknddaa.P Go.Proofs.YtdlififooknddaaW.PrintWords Go.Proofs.YtdlififooknddaaW.PrintLast Go.Proofs.YtdlififooknddaaW.PrintMore

theorem AreGlovesB_ev (l r : List Int) (hl : l.length ≤ 1048576) (hr : r.length ≤ 1048576) : ∃ v K, ∀ k, K ≤ k → spec_AreGloves.f k l r = some v ∧ impl_AreGloves.f k l r = some v := by
  obtain ⟨K1, h1⟩ := gvGood_ev l r (by omega) (by omega)
  obtain ⟨K2, h2⟩ := AreGloves_ev l r (by omega) (by omega)
  refine ⟨gloveB l r, K1 + K2, fun k hk => ?_⟩
  simp (disch := omega) only [spec_AreGloves.f, h1, h2, Option.bind_some, and_self]

end Go.Proofs.Ytdlififooknddaa.Pure
