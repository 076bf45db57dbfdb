/- Plain lemmas over the printed functions of this seat. -/
import Derived.Test.YtcnfhfjhpicpkaaR3
import Derived.Test.YtcnfhfjhpicpkaaQ5
set_option linter.unusedVariables false
set_option linter.unusedSimpArgs false
namespace Go.Proofs.Ytcnfhfjhpicpkaa.Pure
open Go.RowKit Go.Proofs.Ytcnfhfjhpicpkaa.P Go.Proofs.YtcnfhfjhpicpkaaW.PrintWords Go.Proofs.YtcnfhfjhpicpkaaW.PrintLast Go.Proofs.YtcnfhfjhpicpkaaW.PrintMore

theorem szJ_eq (l r : List Int) (s : Int) (h0 : 0 ≤ s) (h1 : s ≤ 1048576) (hl : l.length * 8 ≤ 140737488351232) (hr : r.length * 8 ≤ 140737488351232) :
    laws_szGloves.f l r s = some (if (l.length : Int) + (r.length : Int) ≤ s then s - (l.length : Int) - (r.length : Int) else -1) := by
  have w1 : wrap64 (s - (l.length : Int)) = s - (l.length : Int) := wrap_small (by omega) (by omega)
  simp only [laws_szGloves.f, laws_szIntS.f, w1]
  by_cases c1 : s - (l.length : Int) < 0
  · rw [if_pos c1, Option.bind_some, if_pos (by omega), if_neg (by omega)]
  · rw [if_neg c1, Option.bind_some, if_neg c1]
    have w2 : wrap64 (s - (l.length : Int) - (r.length : Int)) = s - (l.length : Int) - (r.length : Int) := wrap_small (by omega) (by omega)
    rw [w2]
    by_cases c2 : s - (l.length : Int) - (r.length : Int) < 0
    · rw [if_pos c2, Option.bind_some, if_pos (by omega), if_neg (by omega)]
    · rw [if_neg c2, Option.bind_some, if_neg c2, if_pos (by omega)]
theorem FnExactJoinGloves : laws_FnExactJoinGloves.Pure := by
  intro a0 a1 b0 b1 y0 y1 y2 y3
  have z1 := szJ_eq a0 a1 1048576 (by omega) (by omega) y0 y1
  by_cases c1 : (a0.length : Int) + (a1.length : Int) ≤ 1048576
  case neg => rw [if_neg c1] at z1; exact .inl ⟨_, z1, by omega⟩
  rw [if_pos c1] at z1
  have z2 := szJ_eq b0 b1 (1048576 - (a0.length : Int) - (a1.length : Int)) (by omega) (by omega) y2 y3
  by_cases c2 : (b0.length : Int) + (b1.length : Int) ≤ 1048576 - (a0.length : Int) - (a1.length : Int)
  case neg => rw [if_neg c2] at z2; exact .inr (.inl ⟨_, _, z1, by omega, z2, by omega⟩)
  rw [if_pos c2] at z2
  refine .inr (.inr ?_)
  obtain ⟨K1, h1⟩ := toGloves_ev a0 a1 (by omega) (by omega)
  obtain ⟨K2, h2⟩ := toGloves_ev b0 b1 (by omega) (by omega)
  obtain ⟨v, K3, ⟨hv0, hv1⟩, h3⟩ := JoinGloves_ev a0 a1 b0 b1 (by omega) (by omega) (by omega) (by omega)
  obtain ⟨K4, h4⟩ := eqGloves_ev a0 a1 (by omega) (by omega)
  obtain ⟨K5, h5⟩ := eqGloves_ev b0 b1 (by omega) (by omega)
  obtain ⟨K6, h6⟩ := eqGloves_ev v.1 v.2.1 hv0 hv1
  obtain ⟨K7, h7⟩ := markGloves_at a0 a1 1 (by omega) (by omega) (by omega) (by omega)
  obtain ⟨K8, h8⟩ := markGloves_at b0 b1 (1 + (a0.length : Int) + (a1.length : Int)) (by omega) (by omega) (by omega) (by omega)
  obtain ⟨K9, h9⟩ := markGloves_at v.1 v.2.1 1 (by omega) (by omega) hv0 hv1
  obtain ⟨K10, h10⟩ := heldGloves_ev v.1.length v.2.1.length hv0 hv1
  have n1 : ¬ (1048576 - (a0.length : Int) - (a1.length : Int) < 0) := by omega
  have n2 : ¬ (1048576 - (a0.length : Int) - (a1.length : Int) - (b0.length : Int) - (b1.length : Int) < 0) := by omega
  have n3 : ¬ (1 + (a0.length : Int) + (a1.length : Int) + (b0.length : Int) + (b1.length : Int) < 0) := by omega
  have n4 : ¬ (1 + (v.1.length : Int) + (v.2.1.length : Int) < 0) := by omega
  obtain ⟨M, m1, m2, m3, m4, m5, m6, m7, m8, m9, m10⟩ : ∃ M, K1 ≤ M ∧ K2 ≤ M ∧ K3 ≤ M ∧ K4 ≤ M ∧ K5 ≤ M ∧ K6 ≤ M ∧ K7 ≤ M ∧ K8 ≤ M ∧ K9 ≤ M ∧ K10 ≤ M :=
    ⟨K1 + K2 + K3 + K4 + K5 + K6 + K7 + K8 + K9 + K10, by omega, by omega, by omega, by omega, by omega, by omega, by omega, by omega, by omega, by omega⟩
  exact ⟨M, _, _, _, _, _, v.1, v.2.1, _, _, _, _, _, _, v.2.2, z1, n1, z2, n2, h1 M m1, h2 M m2, (h3 M m3).1, (h3 M m3).2, h4 M m4, h5 M m5, h6 M m6, h7 M m7, h8 M m8, n3, h9 M m9, h10 M m10, n4⟩

end Go.Proofs.Ytcnfhfjhpicpkaa.Pure
