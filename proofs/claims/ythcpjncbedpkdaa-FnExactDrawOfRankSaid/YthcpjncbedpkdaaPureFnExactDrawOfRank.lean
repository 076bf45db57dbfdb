/- The program's DrawOfRank returns what the reference's returns: over the printed functions, for every list and number. -/
import Derived.Test.YthcpjncbedpkdaaPx9
import Derived.Test.YthcpjncbedpkdaaY0
import Derived.Test.YthcpjncbedpkdaaY8
import Derived.Test.YthcpjncbedpkdaaY9
set_option linter.unusedVariables false
set_option linter.unusedSimpArgs false
namespace Go.Proofs.Ythcpjncbedpkdaa.Pure
open Go.RowKit Go.Proofs.Ythcpjncbedpkdaa.P Go.Proofs.YthcpjncbedpkdaaW.PrintWords Go.Proofs.YthcpjncbedpkdaaW.PrintLast
theorem FnExactDrawOfRank : laws_FnExactDrawOfRank.Pure := by
  intro l0 a1 a2 hm0 hr0 hw0 ho0 ho1
  by_cases hb0 : (l0.length : Int) > 1048576
  · exact ⟨0, by unfold laws_FnExactDrawOfRank.f; simp only [hb0, if_true, if_false, reduceIte]⟩
  have hl0 : l0.length ≤ 1048576 := by omega
  obtain ⟨Kt0, ht0⟩ := toIntS_ev l0 hl0
  obtain ⟨Ke0, he0⟩ := eqIntS_ev l0 hl0
  obtain ⟨r, K, hr, h⟩ := DrawOfRank_ev l0 a1 a2 hl0
  obtain ⟨Km0, hk0⟩ := markIntS_ev l0 (1) hl0 (by omega) (by omega)
  have n1 : ¬ ((1 + (l0.length : Int) : Int) < 0) := by omega
  have n2 : ¬ ((1 : Int) + (r.1.length : Int) < 0) := by omega
  obtain ⟨Kr, hkr⟩ := markIntS_ev r.1 1 hr (by omega) (by omega)
  obtain ⟨Kh, hh⟩ := heldIntS_ev r.1.length 1 hr (by omega) (by omega)
  obtain ⟨Kq, hq⟩ := eqIntS_ev r.1 hr
  have hs := fun k hk => (h k hk).1
  have hi := fun k hk => (h k hk).2
  obtain ⟨M, zKt0, zKe0, zKm0, zKr, zKh, zKq, zK⟩ : ∃ M, Kt0 ≤ M ∧ Ke0 ≤ M ∧ Km0 ≤ M ∧ Kr ≤ M ∧ Kh ≤ M ∧ Kq ≤ M ∧ K ≤ M := ⟨Kt0 + Ke0 + Km0 + Kr + Kh + Kq + K, by omega, by omega, by omega, by omega, by omega, by omega, by omega⟩
  replace ht0 := fun k (hk : M ≤ k) => ht0 k (by omega)
  replace he0 := fun k (hk : M ≤ k) => he0 k (by omega)
  replace hk0 := fun k (hk : M ≤ k) => hk0 k (by omega)
  replace hkr := fun k (hk : M ≤ k) => hkr k (by omega)
  replace hh := fun k (hk : M ≤ k) => hh k (by omega)
  replace hq := fun k (hk : M ≤ k) => hq k (by omega)
  replace hs := fun k (hk : M ≤ k) => hs k (by omega)
  replace hi := fun k (hk : M ≤ k) => hi k (by omega)
  refine ⟨M + 20, ?_⟩
  simp (maxSteps := 1000000) (disch := first | exact Nat.le_add_right _ _ | omega) only [laws_FnExactDrawOfRank.f, n1, n2, ht0, he0, hk0, hkr, hh, hq, hs, hi, hb0, Option.bind_some, if_true, if_false, bne_self_eq_false, Bool.false_eq_true, reduceIte]
  simp (maxSteps := 1000000) (disch := first | exact Nat.le_add_right _ _ | omega) only [laws_FnExactDrawOfRank.j0, n1, n2, ht0, he0, hk0, hkr, hh, hq, hs, hi, hb0, Option.bind_some, if_true, if_false, bne_self_eq_false, Bool.false_eq_true, reduceIte]
  try simp (maxSteps := 1000000) (disch := first | exact Nat.le_add_right _ _ | omega) only [laws_FnExactDrawOfRank.j1, n1, n2, ht0, he0, hk0, hkr, hh, hq, hs, hi, hb0, Option.bind_some, if_true, if_false, bne_self_eq_false, Bool.false_eq_true, reduceIte]
  try simp (maxSteps := 1000000) (disch := first | exact Nat.le_add_right _ _ | omega) only [laws_FnExactDrawOfRank.j2, n1, n2, ht0, he0, hk0, hkr, hh, hq, hs, hi, hb0, Option.bind_some, if_true, if_false, bne_self_eq_false, Bool.false_eq_true, reduceIte]
end Go.Proofs.Ythcpjncbedpkdaa.Pure
