/- Plain lemmas over the printed functions of this seat. -/
import Derived.Test.YtcnfhfjhpicpkaaY3
import Derived.Test.YtcnfhfjhpicpkaaPx14
set_option linter.unusedVariables false
set_option linter.unusedSimpArgs false
namespace Go.Proofs.Ytcnfhfjhpicpkaa.Pure
open Go.RowKit Go.Proofs.Ytcnfhfjhpicpkaa.P Go.Proofs.YtcnfhfjhpicpkaaW.PrintWords Go.Proofs.YtcnfhfjhpicpkaaW.PrintLast Go.Proofs.YtcnfhfjhpicpkaaW.PrintMore

theorem ChanceOfGlovePair_ev (l r : List Int) (hl : l.length ≤ 1048576) (hr : r.length ≤ 1048576) : ∃ v K, ∀ k, K ≤ k → spec_ChanceOfGlovePair.f k l r = some v ∧ impl_ChanceOfGlovePair.f k l r = some v := by
  obtain ⟨K1, h1⟩ := gvGood_ev l r (by omega) (by omega)
  obtain ⟨K2, h2⟩ := AreGloves_ev l r (by omega) (by omega)
  obtain ⟨K5, h5⟩ := soSum_ev l (by omega)
  obtain ⟨K6, h6⟩ := soSum_ev r (by omega)
  obtain ⟨K7, h7⟩ := total_ev l (by omega)
  obtain ⟨K8, h8⟩ := total_ev r (by omega)
  cases hg : gloveB l r with
  | false =>
    refine ⟨(0, 0, false), K1 + K2 + K7 + K8 + 9, fun k hk => ?_⟩
    obtain ⟨j, rfl⟩ : ∃ j, k = j + 1 := ⟨k - 1, by omega⟩
    simp (disch := omega) only [spec_ChanceOfGlovePair.f, impl_ChanceOfGlovePair.f, impl_ChanceOfGlovePair.j0, h1, h2, h7, h8, hg, Option.bind_some, Bool.false_eq_true, if_false, if_true, and_self]
  | true =>
    obtain ⟨g1, g2, g3, g4, g5, g6⟩ := gloveB_iff.1 hg
    obtain ⟨K3, h3⟩ := gvTwo_ev l r hl g3
    obtain ⟨K4, h4⟩ := product_ev l r hl g3
    obtain ⟨s1, s2, s3⟩ := small_sum l g2 g4
    obtain ⟨t1, t2, t3⟩ := small_sum r (by omega) g5
    have ew : wrap64 (l.sum + r.sum) = l.sum + r.sum := wrap_small (by omega) (by omega)
    have hz := zw_two l r 0 (by omega) (by omega) g4 g5 (by omega)
    by_cases h0 : l.sum + r.sum < 2
    · refine ⟨(0, 0, false), K1 + K2 + K5 + K6 + K7 + K8 + 9, fun k hk => ?_⟩
      obtain ⟨j, rfl⟩ : ∃ j, k = j + 1 := ⟨k - 1, by omega⟩
      have e0 : decide (l.sum + r.sum < 2) = true := decide_eq_true h0
      simp (maxSteps := 1000000) (disch := omega) only [spec_ChanceOfGlovePair.f, impl_ChanceOfGlovePair.f, impl_ChanceOfGlovePair.j0, h1, h2, h5, h6, h7, h8, hg, s1, t1, ew, e0, if_pos h0, Option.bind_some, if_true, and_self]
    · obtain ⟨n, hn⟩ : ∃ n, l.sum + r.sum = n := ⟨_, rfl⟩
      rw [hn] at h0
      replace ew : wrap64 (l.sum + r.sum) = n := ew.trans hn
      have e0 : decide (n < 2) = false := decide_eq_false h0
      have em : wrap64 (n - 1) = n - 1 := wrap_small (by omega) (by omega)
      have hb : 2 ≤ n * (n - 1) ∧ n * (n - 1) ≤ 320 * 320 := ⟨by have := Int.mul_le_mul (show (2 : Int) ≤ n by omega) (show (1 : Int) ≤ n - 1 by omega) (by omega) (by omega); omega, Int.mul_le_mul (by omega) (by omega) (by omega) (by omega)⟩
      have en : wrap64 (n * (n - 1)) = n * (n - 1) := wrap_small (by omega) (by omega)
      have ed : Int.tdiv (n * (n - 1)) 2 = n * (n - 1) / 2 := Int.tdiv_eq_ediv_of_nonneg (by omega)
      have ex : wrap64 (n * (n - 1) / 2) = n * (n - 1) / 2 := wrap_small (by omega) (by omega)
      obtain ⟨p, K9, h9⟩ := low_ev (zw (fun x y => wrap64 (x * y)) 0 l r) (n * (n - 1) / 2) hz.1 (by omega) (by omega)
      refine ⟨(p.1, p.2, true), K1 + K2 + K3 + K4 + K5 + K6 + K7 + K8 + K9 + 9, fun k hk => ?_⟩
      obtain ⟨j, rfl⟩ : ∃ j, k = j + 1 := ⟨k - 1, by omega⟩
      have x1 := (h9 (j + 1) (by omega)).1
      have x2 := (h9 j (by omega)).2
      simp (maxSteps := 1000000) (disch := omega) only [spec_ChanceOfGlovePair.f, impl_ChanceOfGlovePair.f, impl_ChanceOfGlovePair.j0, h1, h2, h3, h4, h5, h6, h7, h8, hg, s1, t1, ew, e0, em, en, ed, ex, x1, x2, Option.bind_some, if_true, Bool.false_eq_true, if_false, if_neg h0, and_self]

end Go.Proofs.Ytcnfhfjhpicpkaa.Pure
