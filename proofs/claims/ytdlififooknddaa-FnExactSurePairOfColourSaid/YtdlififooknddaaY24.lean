/- Plain lemmas over the printed functions of this seat. -/
import Derived.Test.YtdlififooknddaaY1
import Derived.Test.YtdlififooknddaaPx13
set_option linter.unusedVariables false
set_option linter.unusedSimpArgs false
namespace Go.Proofs.Ytdlififooknddaa.Pure
open Go.RowKit Go.Proofs.Ytdlififooknddaa.P Go.Proofs.YtdlififooknddaaW.PrintWords Go.Proofs.YtdlififooknddaaW.PrintLast Go.Proofs.YtdlififooknddaaW.PrintMore

theorem SurePairOfColour_ev (l r : List Int) (c : Int) (hl : l.length ≤ 1048576) (hr : r.length ≤ 1048576) : ∃ v K, ∀ k, K ≤ k → spec_SurePairOfColour.f k l r c = some v ∧ impl_SurePairOfColour.f k l r c = some v := by
  obtain ⟨K1, h1⟩ := gvGood_ev l r (by omega) (by omega)
  obtain ⟨K2, h2⟩ := AreGloves_ev l r (by omega) (by omega)
  obtain ⟨K3, h3⟩ := soSum_ev l (by omega)
  obtain ⟨K4, h4⟩ := soSum_ev r (by omega)
  obtain ⟨K5, h5⟩ := total_ev l (by omega)
  obtain ⟨K6, h6⟩ := total_ev r (by omega)
  have hw : wrap64 ((l.length : Int) - 1) = (l.length : Int) - 1 := wrap_small (by omega) (by omega)
  have e1 : ∀ a b : Int, spec_l1Least.f a b = some (mn a b) := fun a b => by unfold spec_l1Least.f mn; split <;> split <;> first | rfl | (congr 1; omega)
  by_cases hg : gloveB l r = true
  · have hlen := (gloveB_iff.1 hg).2.2.1
    by_cases hc : 0 ≤ c ∧ c < (l.length : Int)
    · have e : (decide (0 ≤ c) && decide (c ≤ (l.length : Int) - 1)) = true := by simp; omega
      refine ⟨if mn (rd l c) (rd r c) = 0 then (0, false) else (wrap64 (wrap64 (wrap64 (wsum 0 l + wsum 0 r) - mn (rd l c) (rd r c)) + 1), true), K1 + K2 + K3 + K4 + K5 + K6 + 9, fun k hk => ?_⟩
      obtain ⟨m, rfl⟩ : ∃ m, k = m + 1 := ⟨k - 1, by omega⟩
      simp (maxSteps := 2000000) (disch := omega) only [spec_SurePairOfColour.f, spec_gvColour.f, impl_SurePairOfColour.f, impl_SurePairOfColour.j0, l1In_eq, within_eq, hw, hg, h1, h2, h3, h4, h5, h6, e, e1, Option.bind_some, if_true, if_pos hc.1, if_pos hc.2, if_pos (show c < (r.length : Int) by omega)]
      by_cases hz : mn (rd l c) (rd r c) = 0 <;> simp [hz]
    · have e : (decide (0 ≤ c) && decide (c ≤ (l.length : Int) - 1)) = false := by simp; omega
      refine ⟨(0, false), K1 + K2 + K3 + K4 + K5 + K6 + 9, fun k hk => ?_⟩
      obtain ⟨m, rfl⟩ : ∃ m, k = m + 1 := ⟨k - 1, by omega⟩
      simp (maxSteps := 2000000) (disch := omega) only [spec_SurePairOfColour.f, spec_gvColour.f, impl_SurePairOfColour.f, impl_SurePairOfColour.j0, l1In_eq, within_eq, hw, hg, h1, h2, e, Option.bind_some, if_true, Bool.false_eq_true, if_false, and_self]
  · have hg' : gloveB l r = false := by simpa using hg
    refine ⟨(0, false), K1 + K2 + K3 + K4 + K5 + K6 + 9, fun k hk => ?_⟩
    obtain ⟨m, rfl⟩ : ∃ m, k = m + 1 := ⟨k - 1, by omega⟩
    simp (maxSteps := 2000000) (disch := omega) only [spec_SurePairOfColour.f, spec_gvColour.f, impl_SurePairOfColour.f, impl_SurePairOfColour.j0, hg', h1, h2, Option.bind_some, if_true, Bool.false_eq_true, if_false, and_self]

end Go.Proofs.Ytdlififooknddaa.Pure
