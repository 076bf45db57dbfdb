/- The program's BadColours returns what the reference's returns: over the printed functions, for every list and number. -/
import Derived.Test.YtjldifjfgeifcaaPx3
import Derived.Test.YtjldifjfgeifcaaY1
import Derived.Test.YtjldifjfgeifcaaY2
import Derived.Test.YtjldifjfgeifcaaY4
set_option linter.unusedVariables false
set_option linter.unusedSimpArgs false
namespace Go.Proofs.Ytjldifjfgeifcaa.Pure
open Go.RowKit Go.Proofs.Ytjldifjfgeifcaa.P Go.Proofs.YtjldifjfgeifcaaW.PrintWords Go.Proofs.YtjldifjfgeifcaaW.PrintLast
theorem FnExactBadColours : laws_FnExactBadColours.Pure := by
  intro l0_0 l0_1 a1 a2 hm0 hr0 hw0 hm1 hr1 hw1 ho0 ho1
  by_cases hb : l0_0.length + l0_1.length ≤ 1048576
  case neg => exact ⟨0, by unfold laws_FnExactBadColours.f; rw [szGloves_eq _ _ hr0 hr1, if_neg hb]; rfl⟩
  have hsz : laws_szGloves.f l0_0 l0_1 1048576 = some (1048576 - (l0_0.length : Int) - (l0_1.length : Int)) := by rw [szGloves_eq _ _ hr0 hr1, if_pos hb]
  have n0 : ¬ (1048576 - (l0_0.length : Int) - (l0_1.length : Int) < 0) := by omega
  have hl0 : l0_0.length ≤ 1048576 := by omega
  have hl1 : l0_1.length ≤ 1048576 := by omega
  obtain ⟨Kt, ht⟩ := toGloves_ev l0_0 l0_1 hl0 hl1
  obtain ⟨Ke, he⟩ := eqGloves_ev l0_0 l0_1 hl0 hl1
  obtain ⟨r, K, hrl, h⟩ := BadColours_ev l0_0 l0_1 a1 a2 hl0 hl1
  have hs := fun k hk => (h k hk).1
  have hi := fun k hk => (h k hk).2
  obtain ⟨Km, hkm⟩ := markGloves_ev l0_0 l0_1 hl0 hl1
  obtain ⟨Kr, hkr⟩ := markIntS_ev r.1 1 hrl (by omega) (by omega)
  obtain ⟨Kh, hh⟩ := heldIntS_ev r.1.length 1 hrl (by omega) (by omega)
  obtain ⟨Kq, hq⟩ := eqIntS_ev r.1 hrl
  have n1 : ¬ (1 + (l0_0.length : Int) + (l0_1.length : Int) < 0) := by omega
  have n2 : ¬ ((1 : Int) + (r.1.length : Int) < 0) := by omega
  obtain ⟨M, zKt, zKe, zK, zKm, zKr, zKh, zKq⟩ : ∃ M, Kt ≤ M ∧ Ke ≤ M ∧ K ≤ M ∧ Km ≤ M ∧ Kr ≤ M ∧ Kh ≤ M ∧ Kq ≤ M := ⟨Kt + Ke + K + Km + Kr + Kh + Kq, by omega, by omega, by omega, by omega, by omega, by omega, by omega⟩
  replace ht := fun k (hk : M ≤ k) => ht k (by omega)
  replace he := fun k (hk : M ≤ k) => he k (by omega)
  replace hs := fun k (hk : M ≤ k) => hs k (by omega)
  replace hi := fun k (hk : M ≤ k) => hi k (by omega)
  replace hkm := fun k (hk : M ≤ k) => hkm k (by omega)
  replace hkr := fun k (hk : M ≤ k) => hkr k (by omega)
  replace hh := fun k (hk : M ≤ k) => hh k (by omega)
  replace hq := fun k (hk : M ≤ k) => hq k (by omega)
  refine ⟨M + 20, ?_⟩
  simp (maxSteps := 1000000) (disch := first | exact Nat.le_add_right _ _ | omega) only [laws_FnExactBadColours.f, hsz, n0, n1, n2, ht, he, hs, hi, hkm, hkr, hh, hq, Option.bind_some, if_true, if_false, bne_self_eq_false, Bool.false_eq_true, reduceIte]
  simp (maxSteps := 1000000) (disch := first | exact Nat.le_add_right _ _ | omega) only [laws_FnExactBadColours.j0, hsz, n0, n1, n2, ht, he, hs, hi, hkm, hkr, hh, hq, Option.bind_some, if_true, if_false, bne_self_eq_false, Bool.false_eq_true, reduceIte]
  try simp (maxSteps := 1000000) (disch := first | exact Nat.le_add_right _ _ | omega) only [laws_FnExactBadColours.j1, hsz, n0, n1, n2, ht, he, hs, hi, hkm, hkr, hh, hq, Option.bind_some, if_true, if_false, bne_self_eq_false, Bool.false_eq_true, reduceIte]
  try simp (maxSteps := 1000000) (disch := first | exact Nat.le_add_right _ _ | omega) only [laws_FnExactBadColours.j2, hsz, n0, n1, n2, ht, he, hs, hi, hkm, hkr, hh, hq, Option.bind_some, if_true, if_false, bne_self_eq_false, Bool.false_eq_true, reduceIte]
end Go.Proofs.Ytjldifjfgeifcaa.Pure
