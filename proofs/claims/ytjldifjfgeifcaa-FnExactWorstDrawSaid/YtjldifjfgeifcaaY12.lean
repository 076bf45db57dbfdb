/- Plain lemmas over the printed functions of this seat. -/
import Derived.Test.YtjldifjfgeifcaaY11
import Derived.Test.YtjldifjfgeifcaaY8
import Derived.Test.YtjldifjfgeifcaaPx6
set_option linter.unusedVariables false
set_option linter.unusedSimpArgs false
namespace Go.Proofs.Ytjldifjfgeifcaa.Pure
open Go.RowKit Go.Proofs.Ytjldifjfgeifcaa.P Go.Proofs.YtjldifjfgeifcaaW.PrintWords Go.Proofs.YtjldifjfgeifcaaW.PrintLast Go.Proofs.YtjldifjfgeifcaaW.PrintMore

theorem prs_le (l : List Int) (h : ∀ x ∈ l, 0 ≤ x ∧ x ≤ 20) : 0 ≤ prs l ∧ prs l ≤ 10 * l.length := by
  have := sum_bounds (l.map (· / 2)) 10 (fun x hx => by
    obtain ⟨y, hy, rfl⟩ := List.mem_map.1 hx
    have := h y hy
    omega)
  simpa [prs] using this
theorem SurePairs_fn (l : List Int) (a : Int) (hl : l.length ≤ 1048576) : ∃ K, ∀ k, K ≤ k →
    spec_SurePairs.f k l a = some (if goodB l = true ∧ 1 ≤ a ∧ a ≤ prs l then (W l (a - 1).toNat + 1, true) else (0, false)) ∧ impl_SurePairs.f k l a = some (if goodB l = true ∧ 1 ≤ a ∧ a ≤ prs l then (W l (a - 1).toNat + 1, true) else (0, false)) := by
  obtain ⟨K1, h1⟩ := soGood_ev l (by omega)
  obtain ⟨K2, h2⟩ := AreSocks_ev l (by omega)
  obtain ⟨K3, h3⟩ := soPairs_ev l (by omega)
  obtain ⟨K4, h4⟩ := pairsOf_ev l (by omega)
  cases hg : goodB l with
  | false =>
    refine ⟨K1 + K2, fun k hk => ?_⟩
    simp (disch := omega) [spec_SurePairs.f, impl_SurePairs.f, h1, h2, hg]
  | true =>
    obtain ⟨g1, g2, g3, g4⟩ := goodB_iff.1 hg
    have ep : wpairs 0 l = prs l := by
      rw [wpairs_small l 0 (by omega) (fun x hx => ⟨(g3 x hx).1, by have := (g3 x hx).2; omega⟩) (by omega)]; omega
    have hb := prs_le l g3
    by_cases ha : 1 ≤ a ∧ a ≤ prs l
    · obtain ⟨p, hp⟩ : ∃ p : Nat, a = (p : Int) + 1 := ⟨(a - 1).toNat, by omega⟩
      subst hp
      have hW := (W_prop l (by omega) g3 p)
      obtain ⟨K5, h5⟩ := fewerW_ev p (by omega) l (by omega) g3
      obtain ⟨T, ⟨K6, h6⟩, t1, t2⟩ := worst_ev l p (by omega) (by omega) (fun x h => (g3 x h).2)
      have t0 := t2 0 (by omega)
      rw [List.drop_zero, show ((0 : Nat) : Int) = 0 from rfl] at t0
      have e1 : (decide (1 ≤ (p : Int) + 1) && decide ((p : Int) + 1 ≤ prs l)) = true := by simp; omega
      have e2 : wrap64 ((p : Int) + 1 - 1) = (p : Int) := by rw [wrap_small (by omega) (by omega)]; omega
      have e3 : wrap64 (W l p + 1) = W l p + 1 := wrap_small (by omega) (by omega)
      have e4 : ((p : Int) + 1 - 1).toNat = p := by omega
      have d0 : (0 : Int) < (T.length : Int) := by omega
      have d1 : (0 : Int) ≤ (p : Int) := by omega
      have d2 : (p : Int) < ((p + 1 : Nat) : Int) := by omega
      refine ⟨K1 + K2 + K3 + K4 + K5 + K6, fun k hk => ?_⟩
      rw [if_pos ⟨rfl, ha⟩, e4]
      have q1 := h1 k (by omega)
      have q2 := h2 k (by omega)
      have q3 := h3 k (by omega)
      have q4 := h4 k (by omega)
      have q5 := h5 k (by omega)
      have q6 := h6 k (by omega)
      simp only at q5 q6
      constructor
      · simp only [spec_SurePairs.f]
        rw [q1, Option.bind_some, hg, if_pos rfl, q3, Option.bind_some, ep, l1In_eq, Option.bind_some, e1, if_pos rfl, q5, Option.bind_some, e3]
      · simp only [impl_SurePairs.f]
        rw [q2, Option.bind_some, hg, if_pos rfl, q4, Option.bind_some, ep, within_eq, Option.bind_some, e1, if_pos rfl, e2, q6, Option.bind_some, if_pos d0, if_pos d1, t0, mp_len, if_pos d2, rd_mp _ _ p (by omega), e3]
    · refine ⟨K1 + K2 + K3 + K4, fun k hk => ?_⟩
      have e1 : (decide (1 ≤ a) && decide (a ≤ prs l)) = false := by
        cases e : (decide (1 ≤ a) && decide (a ≤ prs l)) with
        | false => rfl
        | true => simp at e; exact absurd e ha
      simp (disch := omega) [spec_SurePairs.f, impl_SurePairs.f, h1, h2, h3, h4, hg, ep, l1In_eq, within_eq, e1, ha]
theorem SurePairs_ev (l : List Int) (a : Int) (hl : l.length ≤ 1048576) : ∃ v K, ∀ k, K ≤ k → spec_SurePairs.f k l a = some v ∧ impl_SurePairs.f k l a = some v := ⟨_, SurePairs_fn l a hl⟩

end Go.Proofs.Ytjldifjfgeifcaa.Pure
