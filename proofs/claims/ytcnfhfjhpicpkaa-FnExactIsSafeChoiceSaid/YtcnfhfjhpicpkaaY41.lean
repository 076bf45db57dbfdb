/- Plain lemmas over the printed functions of this seat. -/
import Derived.Test.YtcnfhfjhpicpkaaY4
import Derived.Test.YtcnfhfjhpicpkaaPx16
set_option linter.unusedVariables false
set_option linter.unusedSimpArgs false
namespace Go.Proofs.Ytcnfhfjhpicpkaa.Pure
open Go.RowKit Go.Proofs.Ytcnfhfjhpicpkaa.P Go.Proofs.YtcnfhfjhpicpkaaW.PrintWords Go.Proofs.YtcnfhfjhpicpkaaW.PrintLast Go.Proofs.YtcnfhfjhpicpkaaW.PrintMore

theorem IsSafeChoice_ev (l r : List Int) (a b : Int) (hl : l.length ≤ 1048576) (hr : r.length ≤ 1048576) : ∃ v K, ∀ k, K ≤ k → spec_IsSafeChoice.f k l r a b = some v ∧ impl_IsSafeChoice.f k l r a b = some v := by
  obtain ⟨K1, h1⟩ := gvGood_ev l r (by omega) (by omega)
  obtain ⟨K2, h2⟩ := AreGloves_ev l r (by omega) (by omega)
  obtain ⟨K5, h5⟩ := soSum_ev l (by omega)
  obtain ⟨K6, h6⟩ := soSum_ev r (by omega)
  obtain ⟨K7, h7⟩ := total_ev l (by omega)
  obtain ⟨K8, h8⟩ := total_ev r (by omega)
  by_cases hc : gloveB l r = true ∧ (decide (0 ≤ a) && decide (a ≤ wsum 0 l)) = true ∧ (decide (0 ≤ b) && decide (b ≤ wsum 0 r)) = true
  · obtain ⟨hg, ha, hb⟩ := hc
    obtain ⟨g1, g2, g3, g4, g5, g6⟩ := gloveB_iff.1 hg
    obtain ⟨s1, s2, s3⟩ := small_sum l g2 g4
    obtain ⟨t1, t2, t3⟩ := small_sum r (by omega) g5
    have ha' := ha
    have hb' := hb
    simp only [Bool.and_eq_true, decide_eq_true_eq] at ha' hb'
    obtain ⟨K3, h3⟩ := gvSafe_ev l r g2 g3 g4 g5 a b (by omega) (by omega)
    obtain ⟨K4, h4⟩ := isSafe_ev l r g2 g3 g4 g5 a b (by omega) (by omega)
    simp only at h3 h4
    refine ⟨(!bad l r a b, true), K1 + K2 + K3 + K4 + K5 + K6 + K7 + K8, fun k hk => ?_⟩
    simp (disch := omega) only [spec_IsSafeChoice.f, impl_IsSafeChoice.f, spec_gvChoice.f, impl_isChoice.f, l1In_eq, within_eq, h1, h2, h3, h4, h5, h6, h7, h8, hg, ha, hb, Option.bind_some, if_true, and_self]
  · refine ⟨(false, false), K1 + K2 + K5 + K6 + K7 + K8, fun k hk => ?_⟩
    simp (disch := omega) only [spec_IsSafeChoice.f, impl_IsSafeChoice.f, spec_gvChoice.f, impl_isChoice.f, l1In_eq, within_eq, h1, h2, h5, h6, h7, h8, Option.bind_some]
    cases hg : gloveB l r with
    | false => simp
    | true =>
      cases ha : (decide (0 ≤ a) && decide (a ≤ wsum 0 l)) with
      | false => simp
      | true =>
        cases hb : (decide (0 ≤ b) && decide (b ≤ wsum 0 r)) with
        | false => simp
        | true => exact absurd ⟨hg, ha, hb⟩ hc

end Go.Proofs.Ytcnfhfjhpicpkaa.Pure
