/- The program's LeftBehind returns what the reference's returns: over the printed functions, for every list and number. -/
import Derived.Test.YtmgajkllkmmbgaaPx19
import Derived.Test.YtmgajkllkmmbgaaY0
import Derived.Test.YtmgajkllkmmbgaaY2
import Derived.Test.YtmgajkllkmmbgaaY6
set_option linter.unusedVariables false
set_option linter.unusedSimpArgs false
namespace Go.Proofs.Ytmgajkllkmmbgaa.Pure
open Go.RowKit Go.Proofs.Ytmgajkllkmmbgaa.P Go.Proofs.YtmgajkllkmmbgaaW.PrintWords Go.Proofs.YtmgajkllkmmbgaaW.PrintLast
theorem FnExactLeftBehind : laws_FnExactLeftBehind.Pure := by
  intro l0 l1 hm0 hr0 hw0 hm1 hr1 hw1
  by_cases hb0 : (l0.length : Int) > 1048576
  · exact ⟨0, by unfold laws_FnExactLeftBehind.f; simp only [hb0, if_true, if_false, reduceIte]⟩
  have hl0 : l0.length ≤ 1048576 := by omega
  by_cases hb1 : (l1.length : Int) > 1048576
  · exact ⟨0, by unfold laws_FnExactLeftBehind.f; simp only [hb0, hb1, if_true, if_false, reduceIte]⟩
  have hl1 : l1.length ≤ 1048576 := by omega
  obtain ⟨Kt0, ht0⟩ := toIntS_ev l0 hl0
  obtain ⟨Ke0, he0⟩ := eqIntS_ev l0 hl0
  obtain ⟨Kt1, ht1⟩ := toIntS_ev l1 hl1
  obtain ⟨Ke1, he1⟩ := eqIntS_ev l1 hl1
  obtain ⟨r, K, hr, h⟩ := LeftBehind_ev l0 l1 hl0 hl1
  obtain ⟨Km0, hk0⟩ := markIntS_ev l0 (1) hl0 (by omega) (by omega)
  obtain ⟨Km1, hk1⟩ := markIntS_ev l1 (1 + (l0.length : Int)) hl1 (by omega) (by omega)
  have n1 : ¬ ((1 + (l0.length : Int) + (l1.length : Int) : Int) < 0) := by omega
  have n2 : ¬ ((1 : Int) + (r.1.length : Int) < 0) := by omega
  obtain ⟨Kr, hkr⟩ := markIntS_ev r.1 1 hr (by omega) (by omega)
  obtain ⟨Kh, hh⟩ := heldIntS_ev r.1.length 1 hr (by omega) (by omega)
  obtain ⟨Kq, hq⟩ := eqIntS_ev r.1 hr
  have hs := fun k hk => (h k hk).1
  have hi := fun k hk => (h k hk).2
  obtain ⟨M, zKt0, zKe0, zKt1, zKe1, zKm0, zKm1, zKr, zKh, zKq, zK⟩ : ∃ M, Kt0 ≤ M ∧ Ke0 ≤ M ∧ Kt1 ≤ M ∧ Ke1 ≤ M ∧ Km0 ≤ M ∧ Km1 ≤ M ∧ Kr ≤ M ∧ Kh ≤ M ∧ Kq ≤ M ∧ K ≤ M := ⟨Kt0 + Ke0 + Kt1 + Ke1 + Km0 + Km1 + Kr + Kh + Kq + K, by omega, by omega, by omega, by omega, by omega, by omega, by omega, by omega, by omega, by omega⟩
  replace ht0 := fun k (hk : M ≤ k) => ht0 k (by omega)
  replace he0 := fun k (hk : M ≤ k) => he0 k (by omega)
  replace ht1 := fun k (hk : M ≤ k) => ht1 k (by omega)
  replace he1 := fun k (hk : M ≤ k) => he1 k (by omega)
  replace hk0 := fun k (hk : M ≤ k) => hk0 k (by omega)
  replace hk1 := fun k (hk : M ≤ k) => hk1 k (by omega)
  replace hkr := fun k (hk : M ≤ k) => hkr k (by omega)
  replace hh := fun k (hk : M ≤ k) => hh k (by omega)
  replace hq := fun k (hk : M ≤ k) => hq k (by omega)
  replace hs := fun k (hk : M ≤ k) => hs k (by omega)
  replace hi := fun k (hk : M ≤ k) => hi k (by omega)
  refine ⟨M + 20, ?_⟩
  simp (maxSteps := 1000000) (disch := first | exact Nat.le_add_right _ _ | omega) only [laws_FnExactLeftBehind.f, n1, n2, ht0, he0, ht1, he1, hk0, hk1, hkr, hh, hq, hs, hi, hb0, hb1, Option.bind_some, if_true, if_false, bne_self_eq_false, Bool.false_eq_true, reduceIte]
  simp (maxSteps := 1000000) (disch := first | exact Nat.le_add_right _ _ | omega) only [laws_FnExactLeftBehind.j0, n1, n2, ht0, he0, ht1, he1, hk0, hk1, hkr, hh, hq, hs, hi, hb0, hb1, Option.bind_some, if_true, if_false, bne_self_eq_false, Bool.false_eq_true, reduceIte]
  try simp (maxSteps := 1000000) (disch := first | exact Nat.le_add_right _ _ | omega) only [laws_FnExactLeftBehind.j1, n1, n2, ht0, he0, ht1, he1, hk0, hk1, hkr, hh, hq, hs, hi, hb0, hb1, Option.bind_some, if_true, if_false, bne_self_eq_false, Bool.false_eq_true, reduceIte]
  try simp (maxSteps := 1000000) (disch := first | exact Nat.le_add_right _ _ | omega) only [laws_FnExactLeftBehind.j2, n1, n2, ht0, he0, ht1, he1, hk0, hk1, hkr, hh, hq, hs, hi, hb0, hb1, Option.bind_some, if_true, if_false, bne_self_eq_false, Bool.false_eq_true, reduceIte]
end Go.Proofs.Ytmgajkllkmmbgaa.Pure
