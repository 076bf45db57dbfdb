/- The program's RankOfDraw returns what the reference's returns: over the printed functions, for every list and number. -/
import Derived.Test.YthcpjncbedpkdaaPx8
import Derived.Test.YthcpjncbedpkdaaY0
import Derived.Test.YthcpjncbedpkdaaY7
set_option linter.unusedVariables false
set_option linter.unusedSimpArgs false
namespace Go.Proofs.Ythcpjncbedpkdaa.Pure
open Go.RowKit Go.Proofs.Ythcpjncbedpkdaa.P Go.Proofs.YthcpjncbedpkdaaW.PrintWords Go.Proofs.YthcpjncbedpkdaaW.PrintLast
theorem FnExactRankOfDraw : laws_FnExactRankOfDraw.Pure := by
  intro l0 l1 hm0 hr0 hw0 hm1 hr1 hw1
  by_cases hb0 : (l0.length : Int) > 1048576
  · exact ⟨0, by unfold laws_FnExactRankOfDraw.f; simp only [hb0, if_true, if_false, reduceIte]⟩
  have hl0 : l0.length ≤ 1048576 := by omega
  by_cases hb1 : (l1.length : Int) > 1048576
  · exact ⟨0, by unfold laws_FnExactRankOfDraw.f; simp only [hb0, hb1, if_true, if_false, reduceIte]⟩
  have hl1 : l1.length ≤ 1048576 := by omega
  obtain ⟨Kt0, ht0⟩ := toIntS_ev l0 hl0
  obtain ⟨Ke0, he0⟩ := eqIntS_ev l0 hl0
  obtain ⟨Kt1, ht1⟩ := toIntS_ev l1 hl1
  obtain ⟨Ke1, he1⟩ := eqIntS_ev l1 hl1
  obtain ⟨r, K, h⟩ := RankOfDraw_ev l0 l1 hl0 hl1
  have hs := fun k hk => (h k hk).1
  have hi := fun k hk => (h k hk).2
  obtain ⟨M, zKt0, zKe0, zKt1, zKe1, zK⟩ : ∃ M, Kt0 ≤ M ∧ Ke0 ≤ M ∧ Kt1 ≤ M ∧ Ke1 ≤ M ∧ K ≤ M := ⟨Kt0 + Ke0 + Kt1 + Ke1 + K, by omega, by omega, by omega, by omega, by omega⟩
  replace ht0 := fun k (hk : M ≤ k) => ht0 k (by omega)
  replace he0 := fun k (hk : M ≤ k) => he0 k (by omega)
  replace ht1 := fun k (hk : M ≤ k) => ht1 k (by omega)
  replace he1 := fun k (hk : M ≤ k) => he1 k (by omega)
  replace hs := fun k (hk : M ≤ k) => hs k (by omega)
  replace hi := fun k (hk : M ≤ k) => hi k (by omega)
  refine ⟨M + 20, ?_⟩
  simp (maxSteps := 1000000) (disch := first | exact Nat.le_add_right _ _ | omega) only [laws_FnExactRankOfDraw.f, ht0, he0, ht1, he1, hs, hi, hb0, hb1, Option.bind_some, if_true, if_false, bne_self_eq_false, Bool.false_eq_true, reduceIte]
  simp (maxSteps := 1000000) (disch := first | exact Nat.le_add_right _ _ | omega) only [laws_FnExactRankOfDraw.j0, ht0, he0, ht1, he1, hs, hi, hb0, hb1, Option.bind_some, if_true, if_false, bne_self_eq_false, Bool.false_eq_true, reduceIte]
end Go.Proofs.Ythcpjncbedpkdaa.Pure
