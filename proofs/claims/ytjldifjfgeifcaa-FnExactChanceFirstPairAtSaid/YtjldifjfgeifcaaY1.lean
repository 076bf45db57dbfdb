/- Plain lemmas over the printed functions of this seat. -/
import Derived.Test.YtjldifjfgeifcaaY0
import Derived.Test.YtjldifjfgeifcaaPx13
set_option linter.unusedVariables false
set_option linter.unusedSimpArgs false
namespace Go.Proofs.Ytjldifjfgeifcaa.Pure
open Go.RowKit Go.Proofs.Ytjldifjfgeifcaa.P Go.Proofs.YtjldifjfgeifcaaW.PrintWords Go.Proofs.YtjldifjfgeifcaaW.PrintLast Go.Proofs.YtjldifjfgeifcaaW.PrintMore

/-! ### few socks -/
def fewB (l : List Int) : Bool := goodB l && decide (wsum 0 l ≤ 40)
theorem fewB_iff {l : List Int} : fewB l = true ↔ goodB l = true ∧ wsum 0 l ≤ 40 := by simp [fewB]
theorem few_sum {l : List Int} (h : fewB l = true) : wsum 0 l = l.sum ∧ 0 < l.sum ∧ l.sum ≤ 40 ∧ 1 ≤ l.length ∧ l.length ≤ 8 ∧ (∀ x ∈ l, 0 ≤ x ∧ x ≤ 20) := by
  obtain ⟨hg, h40⟩ := fewB_iff.1 h
  obtain ⟨g1, g2, g3, g4⟩ := goodB_iff.1 hg
  have := good_sum l g2 (allIn_iff.2 g3)
  exact ⟨this, g4, by omega, g1, g2, g3⟩
theorem chGood_ev (l : List Int) (hl : l.length ≤ 1048576) : ∃ K, ∀ k, K ≤ k → spec_chGood.f k l = some (fewB l) := by
  obtain ⟨K1, h1⟩ := soGood_ev l (by omega)
  obtain ⟨K2, h2⟩ := soSum_ev l (by omega)
  refine ⟨K1 + K2, fun k hk => ?_⟩
  simp (disch := omega) only [spec_chGood.f, h1, h2, Option.bind_some, fewB]
  cases goodB l <;> simp
theorem areFew_ev (l : List Int) (hl : l.length ≤ 1048576) : ∃ K, ∀ k, K ≤ k → impl_areFew.f k l = some (fewB l) := by
  obtain ⟨K1, h1⟩ := AreSocks_ev l (by omega)
  obtain ⟨K2, h2⟩ := total_ev l (by omega)
  refine ⟨K1 + K2, fun k hk => ?_⟩
  simp (disch := omega) only [impl_areFew.f, h1, h2, Option.bind_some, fewB]
  cases goodB l <;> simp

def numB (l : List Int) (a : Int) : Bool := fewB l && (decide (0 ≤ a) && decide (a ≤ wsum 0 l))
theorem isNumber_ev (l : List Int) (a : Int) (hl : l.length ≤ 1048576) : ∃ K, ∀ k, K ≤ k → impl_isNumber.f k l a = some (numB l a) := by
  obtain ⟨K1, h1⟩ := areFew_ev l hl
  obtain ⟨K2, h2⟩ := total_ev l (by omega)
  refine ⟨K1 + K2, fun k hk => ?_⟩
  simp (disch := omega) only [impl_isNumber.f, h1, h2, within_eq, Option.bind_some, numB]
  cases fewB l <;> simp

end Go.Proofs.Ytjldifjfgeifcaa.Pure
