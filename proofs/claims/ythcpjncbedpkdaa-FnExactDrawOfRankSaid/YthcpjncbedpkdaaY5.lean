/- Plain lemmas over the printed functions of this seat. -/
import Derived.Test.YthcpjncbedpkdaaY4
set_option linter.unusedVariables false
set_option linter.unusedSimpArgs false
namespace Go.Proofs.Ythcpjncbedpkdaa.Pure
open Go.RowKit Go.Proofs.Ythcpjncbedpkdaa.P Go.Proofs.YthcpjncbedpkdaaW.PrintWords Go.Proofs.YthcpjncbedpkdaaW.PrintLast Go.Proofs.YthcpjncbedpkdaaW.PrintMore

theorem Ev.two {α : Type} {f g : Nat → Option α} {r : α} (h1 : Ev f r) (h2 : Ev g r) : ∃ r K, ∀ k, K ≤ k → f k = some r ∧ g k = some r := by
  obtain ⟨K1, h1⟩ := h1
  obtain ⟨K2, h2⟩ := h2
  exact ⟨r, K1 + K2, fun k hk => ⟨h1 k (by omega), h2 k (by omega)⟩⟩
theorem CountDraws_ev (l : List Int) (a : Int) (hl : l.length ≤ 1048576) : ∃ r K, ∀ k, K ≤ k → spec_CountDraws.f k l a = some r ∧ impl_CountDraws.f k l a = some r :=
  (specCountDraws_ev l hl a).two (implCountDraws_ev l hl a)
theorem CountPairDraws_ev (l : List Int) (a b : Int) (hl : l.length ≤ 1048576) : ∃ r K, ∀ k, K ≤ k → spec_CountPairDraws.f k l a b = some r ∧ impl_CountPairDraws.f k l a b = some r :=
  (specCountPairDraws_ev l hl a b).two (implCountPairDraws_ev l hl a b)

end Go.Proofs.Ythcpjncbedpkdaa.Pure
