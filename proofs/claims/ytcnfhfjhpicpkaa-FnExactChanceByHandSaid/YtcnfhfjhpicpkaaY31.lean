/- Plain lemmas over the printed functions of this seat. -/
import Derived.Test.YtcnfhfjhpicpkaaY3
import Derived.Test.YtcnfhfjhpicpkaaPx13
set_option linter.unusedVariables false
set_option linter.unusedSimpArgs false
namespace Go.Proofs.Ytcnfhfjhpicpkaa.Pure
open Go.RowKit Go.Proofs.Ytcnfhfjhpicpkaa.P Go.Proofs.YtcnfhfjhpicpkaaW.PrintWords Go.Proofs.YtcnfhfjhpicpkaaW.PrintLast Go.Proofs.YtcnfhfjhpicpkaaW.PrintMore

theorem ChanceByHand_ev (l r : List Int) (hl : l.length ≤ 1048576) (hr : r.length ≤ 1048576) : ∃ v K, ∀ k, K ≤ k → spec_ChanceByHand.f k l r = some v ∧ impl_ChanceByHand.f k l r = some v := by
  obtain ⟨K1, h1⟩ := gvGood_ev l r (by omega) (by omega)
  obtain ⟨K2, h2⟩ := AreGloves_ev l r (by omega) (by omega)
  cases hg : gloveB l r with
  | false =>
    refine ⟨(0, 0, false), K1 + K2 + 9, fun k hk => ?_⟩
    obtain ⟨j, rfl⟩ : ∃ j, k = j + 1 := ⟨k - 1, by omega⟩
    simp (disch := omega) only [spec_ChanceByHand.f, impl_ChanceByHand.f, impl_ChanceByHand.j0, h1, h2, hg, Option.bind_some, Bool.false_eq_true, if_false, if_true, and_self]
  | true =>
    obtain ⟨g1, g2, g3, g4, g5, g6⟩ := gloveB_iff.1 hg
    obtain ⟨K3, h3⟩ := gvTwo_ev l r hl g3
    obtain ⟨K4, h4⟩ := product_ev l r hl g3
    obtain ⟨K5, h5⟩ := soSum_ev l (by omega)
    obtain ⟨K6, h6⟩ := soSum_ev r (by omega)
    obtain ⟨K7, h7⟩ := total_ev l (by omega)
    obtain ⟨K8, h8⟩ := total_ev r (by omega)
    obtain ⟨s1, s2, s3⟩ := small_sum l g2 g4
    obtain ⟨t1, t2, t3⟩ := small_sum r (by omega) g5
    have hp : 0 ≤ l.sum * r.sum ∧ l.sum * r.sum ≤ 160 * 160 := ⟨Int.mul_nonneg s2 t2, Int.mul_le_mul s3 t3 t2 (by omega)⟩
    have ew : wrap64 (l.sum * r.sum) = l.sum * r.sum := wrap_small (by omega) (by omega)
    have hz := zw_two l r 0 (by omega) (by omega) g4 g5 (by omega)
    by_cases h0 : l.sum = 0 ∨ r.sum = 0
    · have hq : l.sum * r.sum = 0 := Int.mul_eq_zero.2 h0
      refine ⟨(0, 0, false), K1 + K2 + K5 + K6 + K7 + K8 + 9, fun k hk => ?_⟩
      obtain ⟨j, rfl⟩ : ∃ j, k = j + 1 := ⟨k - 1, by omega⟩
      simp (maxSteps := 1000000) (disch := omega) only [spec_ChanceByHand.f, impl_ChanceByHand.f, impl_ChanceByHand.j0, h1, h2, h5, h6, h7, h8, hg, s1, t1, ew, hq, Option.bind_some, if_true]
      have w0 : wrap64 0 = 0 := wrap_small (by omega) (by omega)
      by_cases hl0 : l.sum = 0
      · simp [hl0, w0]
      · have hr0 : r.sum = 0 := h0.resolve_left hl0
        simp [hl0, hr0, w0]
    · have hl0 : l.sum ≠ 0 := fun h => h0 (.inl h)
      have hr0 : r.sum ≠ 0 := fun h => h0 (.inr h)
      have hq : l.sum * r.sum ≠ 0 := Int.mul_ne_zero hl0 hr0
      have er : (r.sum == 0) = false := by simp [hr0]
      obtain ⟨p, K9, h9⟩ := low_ev (zw (fun x y => wrap64 (x * y)) 0 l r) (l.sum * r.sum) hz.1 (by omega) (by omega)
      refine ⟨(p.1, p.2, true), K1 + K2 + K3 + K4 + K5 + K6 + K7 + K8 + K9 + 9, fun k hk => ?_⟩
      obtain ⟨j, rfl⟩ : ∃ j, k = j + 1 := ⟨k - 1, by omega⟩
      have x1 := (h9 (j + 1) (by omega)).1
      have x2 := (h9 j (by omega)).2
      simp (maxSteps := 1000000) (disch := omega) only [spec_ChanceByHand.f, impl_ChanceByHand.f, impl_ChanceByHand.j0, h1, h2, h3, h4, h5, h6, h7, h8, hg, s1, t1, ew, er, x1, x2, if_neg hq, if_neg hl0, Option.bind_some, if_true, Bool.false_eq_true, if_false, and_self]

end Go.Proofs.Ytcnfhfjhpicpkaa.Pure
