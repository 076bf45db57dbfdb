/- The program's GlovesText returns what the reference's returns: over the printed functions, for every list and number. -/
import Derived.Test.YtakdcikmflpioaaDoorPx2
import Derived.Test.YtakdcikmflpioaaDoorY1
import Derived.Test.YtakdcikmflpioaaDoorY2
set_option linter.unusedVariables false
set_option linter.unusedSimpArgs false
namespace Go.Proofs.YtakdcikmflpioaaDoor.Pure
open Go.RowKit Go.Proofs.YtakdcikmflpioaaDoor.P Go.Proofs.YtakdcikmflpioaaDoorW.PrintWords Go.Proofs.YtakdcikmflpioaaDoorW.PrintLast
theorem FnExactGlovesText : laws_FnExactGlovesText.Pure := by
  intro l0_0 l0_1 hm0 hr0 hw0 hm1 hr1 hw1
  by_cases hb : l0_0.length + l0_1.length ≤ 1048576
  case neg => exact ⟨0, by unfold laws_FnExactGlovesText.f; rw [szGloves_eq _ _ hr0 hr1, if_neg hb]; rfl⟩
  have hsz : laws_szGloves.f l0_0 l0_1 1048576 = some (1048576 - (l0_0.length : Int) - (l0_1.length : Int)) := by rw [szGloves_eq _ _ hr0 hr1, if_pos hb]
  have n0 : ¬ (1048576 - (l0_0.length : Int) - (l0_1.length : Int) < 0) := by omega
  have hl0 : l0_0.length ≤ 1048576 := by omega
  have hl1 : l0_1.length ≤ 1048576 := by omega
  obtain ⟨Kt, ht⟩ := toGloves_ev l0_0 l0_1 hl0 hl1
  obtain ⟨Ke, he⟩ := eqGloves_ev l0_0 l0_1 hl0 hl1
  obtain ⟨r, K, h⟩ := GlovesText_ev l0_0 l0_1 hl0 hl1
  have hs := fun k hk => (h k hk).1
  have hi := fun k hk => (h k hk).2
  obtain ⟨M, zKt, zKe, zK⟩ : ∃ M, Kt ≤ M ∧ Ke ≤ M ∧ K ≤ M := ⟨Kt + Ke + K, by omega, by omega, by omega⟩
  replace ht := fun k (hk : M ≤ k) => ht k (by omega)
  replace he := fun k (hk : M ≤ k) => he k (by omega)
  replace hs := fun k (hk : M ≤ k) => hs k (by omega)
  replace hi := fun k (hk : M ≤ k) => hi k (by omega)
  refine ⟨M + 20, ?_⟩
  simp (maxSteps := 1000000) (disch := first | exact Nat.le_add_right _ _ | omega) only [laws_FnExactGlovesText.f, hsz, n0, ht, he, hs, hi, Option.bind_some, if_true, if_false, bne_self_eq_false, Bool.false_eq_true, reduceIte]
  simp (maxSteps := 1000000) (disch := first | exact Nat.le_add_right _ _ | omega) only [laws_FnExactGlovesText.j0, hsz, n0, ht, he, hs, hi, Option.bind_some, if_true, if_false, bne_self_eq_false, Bool.false_eq_true, reduceIte]
end Go.Proofs.YtakdcikmflpioaaDoor.Pure
