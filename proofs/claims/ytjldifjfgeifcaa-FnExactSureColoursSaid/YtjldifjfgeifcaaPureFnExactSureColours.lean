/- The program's SureColours returns what the reference's returns: over the printed functions, for every list and number. -/
import Derived.Test.YtjldifjfgeifcaaPx1
import Derived.Test.YtjldifjfgeifcaaY0
import Derived.Test.YtjldifjfgeifcaaY1
set_option linter.unusedVariables false
set_option linter.unusedSimpArgs false
namespace Go.Proofs.Ytjldifjfgeifcaa.Pure
open Go.RowKit Go.Proofs.Ytjldifjfgeifcaa.P Go.Proofs.YtjldifjfgeifcaaW.PrintWords Go.Proofs.YtjldifjfgeifcaaW.PrintLast
theorem FnExactSureColours : laws_FnExactSureColours.Pure := by
  intro l0 a1 hm0 hr0 hw0 ho0
  by_cases hb0 : (l0.length : Int) > 1048576
  · exact ⟨0, by unfold laws_FnExactSureColours.f; simp only [hb0, if_true, if_false, reduceIte]⟩
  have hl0 : l0.length ≤ 1048576 := by omega
  obtain ⟨Kt0, ht0⟩ := toIntS_ev l0 hl0
  obtain ⟨Ke0, he0⟩ := eqIntS_ev l0 hl0
  obtain ⟨r, K, h⟩ := SureColours_ev l0 a1 hl0
  have hs := fun k hk => (h k hk).1
  have hi := fun k hk => (h k hk).2
  obtain ⟨M, zKt0, zKe0, zK⟩ : ∃ M, Kt0 ≤ M ∧ Ke0 ≤ M ∧ K ≤ M := ⟨Kt0 + Ke0 + K, by omega, by omega, by omega⟩
  replace ht0 := fun k (hk : M ≤ k) => ht0 k (by omega)
  replace he0 := fun k (hk : M ≤ k) => he0 k (by omega)
  replace hs := fun k (hk : M ≤ k) => hs k (by omega)
  replace hi := fun k (hk : M ≤ k) => hi k (by omega)
  refine ⟨M + 20, ?_⟩
  simp (maxSteps := 1000000) (disch := first | exact Nat.le_add_right _ _ | omega) only [laws_FnExactSureColours.f, ht0, he0, hs, hi, hb0, Option.bind_some, if_true, if_false, bne_self_eq_false, Bool.false_eq_true, reduceIte]
  simp (maxSteps := 1000000) (disch := first | exact Nat.le_add_right _ _ | omega) only [laws_FnExactSureColours.j0, ht0, he0, hs, hi, hb0, Option.bind_some, if_true, if_false, bne_self_eq_false, Bool.false_eq_true, reduceIte]
end Go.Proofs.Ytjldifjfgeifcaa.Pure
