/- Plain lemmas over the printed functions of this seat. -/
import Derived.Test.YtjldifjfgeifcaaY1
import Derived.Test.YtjldifjfgeifcaaY4
import Derived.Test.YtjldifjfgeifcaaPx13
set_option linter.unusedVariables false
set_option linter.unusedSimpArgs false
namespace Go.Proofs.Ytjldifjfgeifcaa.Pure
open Go.RowKit Go.Proofs.Ytjldifjfgeifcaa.P Go.Proofs.YtjldifjfgeifcaaW.PrintWords Go.Proofs.YtjldifjfgeifcaaW.PrintLast Go.Proofs.YtjldifjfgeifcaaW.PrintMore

theorem ChanceFirstPairAt_ev (l : List Int) (a : Int) (hl : l.length ≤ 1048576) : ∃ v K, ∀ k, K ≤ k → spec_ChanceFirstPairAt.f k l a = some v ∧ impl_ChanceFirstPairAt.f k l a = some v := by
  obtain ⟨K1, h1⟩ := chGood_ev l hl
  obtain ⟨K2, h2⟩ := soSum_ev l (by omega)
  obtain ⟨K3, h3⟩ := isNumber_ev l a hl
  obtain ⟨K4, h4⟩ := total_ev l (by omega)
  obtain ⟨K6, h6⟩ := unl_ev l hl
  by_cases hc : fewB l = true ∧ 1 ≤ a ∧ a ≤ wsum 0 l
  · obtain ⟨hf, c1, c2⟩ := hc
    obtain ⟨s1, s2, s3, s4, s5, s6⟩ := few_sum hf
    obtain ⟨M, hM⟩ : ∃ M : Nat, a = M + 1 := ⟨(a - 1).toNat, by omega⟩
    have em : wrap64 (a - 1) = (M : Int) := by rw [wrap_small (by omega) (by omega)]; omega
    obtain ⟨K5, h5⟩ := chD_ev l hl M (by omega)
    obtain ⟨c, z0, z1, _, _, z2, hch⟩ := choose_ev l.sum M (by omega) s3
    have z3 := z2 (by omega) (by omega)
    have z4 : c ≤ 1099511627776 := Int.le_trans z1 (by have := pow2_mono (show l.sum.toNat ≤ 40 by omega); have e : (2 : Int) ^ 40 = 1099511627776 := by decide
                                                       omega)
    have eS : wrap64 (wrap64 (l.sum - a) + 1) = l.sum - M := by rw [wrap_small (x := l.sum - a) (by omega) (by omega), wrap_small (by omega) (by omega)]; omega
    have hb : 1 ≤ c * (l.sum - M) ∧ c * (l.sum - M) ≤ 1099511627776 * 40 := ⟨by have := Int.mul_le_mul z3 (show (1 : Int) ≤ l.sum - M by omega) (by omega) (by omega); omega, Int.mul_le_mul z4 (by omega) (by omega) (by omega)⟩
    have ew : wrap64 (c * (l.sum - M)) = c * (l.sum - M) := wrap_small (by omega) (by omega)
    have hE := (polys_few l s5 s6).2 M
    obtain ⟨n, hn⟩ : ∃ n : Nat, (polys oneZ (fun _ => 0) l).2 M = n := ⟨_, (Int.toNat_of_nonneg hE.1).symm⟩
    obtain ⟨d, hd⟩ : ∃ d : Nat, c * (l.sum - M) = d := ⟨_, (Int.toNat_of_nonneg (by omega)).symm⟩
    have hlow := low_nat n d (by omega) (by omega) (by omega)
    have eb : numB l a = true := by unfold numB; rw [hf]; simp; omega
    have e1 : (decide (1 ≤ a) && decide (a ≤ l.sum)) = true := by simp; omega
    have e2 : decide (a < 1) = false := by simp; omega
    refine ⟨(((n / Nat.gcd n d : Nat) : Int), ((d / Nat.gcd n d : Nat) : Int), true), K1 + K2 + K3 + K4 + K5 + K6 + d + 70, fun k hk => ?_⟩
    obtain ⟨m, rfl⟩ : ∃ m, k = m + 1 := ⟨k - 1, by omega⟩
    have q1 := (hch m (by omega)).1
    have q2 := (hch m (by omega)).2
    have r1 := (hlow m (by omega)).1
    have r2 := (hlow m (by omega)).2
    constructor
    · simp (maxSteps := 1000000) (disch := omega) only [spec_ChanceFirstPairAt.f, spec_ChanceFirstPairAt.j0, h1, h2, hf, s1, l1In_eq, e1, em, h5, Option.bind_some, if_true, Bool.not_true, Bool.false_eq_true, if_false]
      rw [if_pos (by omega), if_pos (by rw [mp_len]; omega), rd_mp _ _ M (by omega), hn, q1, Option.bind_some, eS, ew, hd, r1]
      rfl
    · by_cases hML : (M : Int) > (l.length : Int)
      · have hz := (polys_none l M (by omega)).2
        have n0 : n = 0 := by omega
        subst n0
        simp (maxSteps := 1000000) (disch := omega) only [impl_ChanceFirstPairAt.f, impl_ChanceFirstPairAt.j0, h3, eb, e2, em, if_pos hML, Option.bind_some, if_true, Bool.false_eq_true, if_false]
        have : d / Nat.gcd 0 d = 1 := by rw [Nat.gcd_zero_left]; exact Nat.div_self (by omega)
        rw [this]; simp
      · simp (maxSteps := 1000000) (disch := omega) only [impl_ChanceFirstPairAt.f, impl_ChanceFirstPairAt.j0, h3, h4, h6, eb, e2, em, s1, if_neg hML, Option.bind_some, if_true, Bool.false_eq_true, if_false]
        rw [if_pos (by omega), if_pos (by rw [mp_len]; omega), rdT_mp _ _ M (by omega), q2, Option.bind_some, eS, ew, hd]
        simp only [prS, hn, r2, Option.bind_some]
  · refine ⟨(0, 0, false), K1 + K2 + K3 + 9, fun k hk => ?_⟩
    obtain ⟨m, rfl⟩ : ∃ m, k = m + 1 := ⟨k - 1, by omega⟩
    constructor
    · simp (maxSteps := 1000000) (disch := omega) only [spec_ChanceFirstPairAt.f, spec_ChanceFirstPairAt.j0, h1, h2, l1In_eq, Option.bind_some]
      cases hf : fewB l with
      | false => simp
      | true =>
        have e1 : (decide (1 ≤ a) && decide (a ≤ wsum 0 l)) = false := by
          cases e : (decide (1 ≤ a) && decide (a ≤ wsum 0 l)) with
          | false => rfl
          | true => simp at e; exact absurd ⟨hf, e.1, e.2⟩ hc
        rw [e1]; simp
    · simp (maxSteps := 1000000) (disch := omega) only [impl_ChanceFirstPairAt.f, impl_ChanceFirstPairAt.j0, h3, Option.bind_some]
      cases hb : numB l a with
      | false => simp
      | true =>
        unfold numB at hb
        simp at hb
        have : a < 1 := by
          by_cases h : a < 1
          · exact h
          · exact absurd ⟨hb.1, by omega, hb.2.2⟩ hc
        rw [decide_eq_true this]; simp

end Go.Proofs.Ytjldifjfgeifcaa.Pure
