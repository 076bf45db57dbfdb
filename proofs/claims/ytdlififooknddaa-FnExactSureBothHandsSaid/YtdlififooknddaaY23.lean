/- Plain lemmas over the printed functions of this seat. -/
import Derived.Test.YtdlififooknddaaY1
import Derived.Test.YtdlififooknddaaPx12
set_option linter.unusedVariables false
set_option linter.unusedSimpArgs false
namespace Go.Proofs.Ytdlififooknddaa.Pure
open Go.RowKit Go.Proofs.Ytdlififooknddaa.P Go.Proofs.YtdlififooknddaaW.PrintWords Go.Proofs.YtdlififooknddaaW.PrintLast Go.Proofs.YtdlififooknddaaW.PrintMore

theorem SureBothHands_ev (l r : List Int) (hl : l.length ≤ 1048576) (hr : r.length ≤ 1048576) : ∃ v K, ∀ k, K ≤ k → spec_SureBothHands.f k l r = some v ∧ impl_SureBothHands.f k l r = some v := by
  obtain ⟨K1, h1⟩ := gvGood_ev l r (by omega) (by omega)
  obtain ⟨K2, h2⟩ := AreGloves_ev l r (by omega) (by omega)
  obtain ⟨K3, h3⟩ := soSum_ev l (by omega)
  obtain ⟨K4, h4⟩ := soSum_ev r (by omega)
  obtain ⟨K5, h5⟩ := total_ev l (by omega)
  obtain ⟨K6, h6⟩ := total_ev r (by omega)
  refine ⟨if gloveB l r = true ∧ wsum 0 l ≠ 0 ∧ wsum 0 r ≠ 0 then (wrap64 (max (wsum 0 l) (wsum 0 r) + 1), true) else (0, false), K1 + K2 + K3 + K4 + K5 + K6 + 9, fun k hk => ?_⟩
  obtain ⟨m, rfl⟩ : ∃ m, k = m + 1 := ⟨k - 1, by omega⟩
  have e1 : ∀ a b : Int, spec_l1Most.f a b = some (max a b) := fun a b => by unfold spec_l1Most.f; split <;> (congr 1; omega)
  have e2 : ∀ a b : Int, mx a b = max a b := fun a b => by unfold mx; omega
  simp (disch := omega) only [spec_SureBothHands.f, impl_SureBothHands.f, impl_SureBothHands.j0, h1, h2, h3, h4, h5, h6, e1, e2, Option.bind_some]
  generalize wsum 0 l = a
  generalize wsum 0 r = b
  by_cases ha : a = 0 <;> by_cases hb : b = 0 <;> cases gloveB l r <;> simp [ha, hb]

end Go.Proofs.Ytdlififooknddaa.Pure
