/- Plain lemmas over the printed functions of this seat. -/
import Derived.Test.YtdlififooknddaaY3
import Derived.Test.YtdlififooknddaaY4
import Derived.Test.YtdlififooknddaaPx15
import Derived.Test.YtdlififooknddaaPx16
import Derived.Test.YtdlififooknddaaPx8
set_option linter.unusedVariables false
set_option linter.unusedSimpArgs false
namespace Go.Proofs.Ytdlififooknddaa.Pure
open Go.RowKit Go.Proofs.Ytdlififooknddaa.P Go.Proofs.YtdlififooknddaaW.PrintWords Go.Proofs.YtdlififooknddaaW.PrintLast Go.Proofs.YtdlififooknddaaW.PrintMore

theorem numB_iff {l : List Int} {a : Int} : numB l a = true ↔ fewB l = true ∧ 0 ≤ a ∧ a ≤ wsum 0 l := by simp [numB]
theorem WaysToDraw_ev (l : List Int) (a : Int) (hl : l.length ≤ 1048576) : ∃ r K, ∀ k, K ≤ k → spec_WaysToDraw.f k l a = some r ∧ impl_WaysToDraw.f k l a = some r := by
  obtain ⟨K1, h1⟩ := chAsked_ev l a hl
  obtain ⟨K2, h2⟩ := isNumber_ev l a hl
  obtain ⟨K3, h3⟩ := soSum_ev l (by omega)
  obtain ⟨K4, h4⟩ := total_ev l (by omega)
  by_cases hn : numB l a = true
  · obtain ⟨hf, a0, a1⟩ := numB_iff.1 hn
    obtain ⟨s1, s2, s3, _⟩ := few_sum hf
    obtain ⟨v, _, _, _, _, _, hv⟩ := choose_ev (wsum 0 l) a (by omega) (by omega)
    refine ⟨(v, true), K1 + K2 + K3 + K4 + 60, fun k hk => ?_⟩
    simp (disch := omega) only [spec_WaysToDraw.f, impl_WaysToDraw.f, h1, h2, h3, h4, hn, (hv k (by omega)).1, (hv k (by omega)).2, Option.bind_some, if_true, and_self]
  · have hn' : numB l a = false := by simpa using hn
    refine ⟨(0, false), K1 + K2, fun k hk => ?_⟩
    simp (disch := omega) only [spec_WaysToDraw.f, impl_WaysToDraw.f, h1, h2, hn', Option.bind_some, Bool.false_eq_true, if_false, and_self]

def colB (l : List Int) (c : Int) : Bool := goodB l && (decide (0 ≤ c) && decide (c ≤ (l.length : Int) - 1))
theorem isColour_ev (l : List Int) (c : Int) (hl : l.length ≤ 1048576) : ∃ K, ∀ k, K ≤ k → impl_isColour.f k l c = some (colB l c) := by
  obtain ⟨K1, h1⟩ := AreSocks_ev l (by omega)
  have hw : wrap64 ((l.length : Int) - 1) = (l.length : Int) - 1 := wrap_small (by omega) (by omega)
  refine ⟨K1, fun k hk => ?_⟩
  simp (disch := omega) only [impl_isColour.f, h1, within_eq, hw, Option.bind_some, colB]
  cases goodB l <;> simp
theorem rd_mem (l : List Int) (c : Int) (h0 : 0 ≤ c) (h1 : c < (l.length : Int)) : rd l c ∈ l := by
  obtain ⟨i, rfl⟩ := Int.eq_ofNat_of_zero_le h0
  rw [rd_at l i (by omega)]
  exact List.getElem_mem _
theorem MeanOfColour_ev (l : List Int) (c m : Int) (hl : l.length ≤ 1048576) : ∃ r K, ∀ k, K ≤ k → spec_MeanOfColour.f k l c m = some r ∧ impl_MeanOfColour.f k l c m = some r := by
  obtain ⟨K1, h1⟩ := chAsked_ev l m hl
  obtain ⟨K2, h2⟩ := isNumber_ev l m hl
  obtain ⟨K3, h3⟩ := soSum_ev l (by omega)
  obtain ⟨K4, h4⟩ := total_ev l (by omega)
  obtain ⟨K5, h5⟩ := isColour_ev l c hl
  have hw : wrap64 ((l.length : Int) - 1) = (l.length : Int) - 1 := wrap_small (by omega) (by omega)
  by_cases hn : numB l m = true
  · obtain ⟨hf, a0, a1⟩ := numB_iff.1 hn
    obtain ⟨s1, s2, s3, s4, s5, s6⟩ := few_sum hf
    have hg : goodB l = true := (fewB_iff.1 hf).1
    by_cases hc : 0 ≤ c ∧ c < (l.length : Int)
    · have e : (decide (0 ≤ c) && decide (c ≤ (l.length : Int) - 1)) = true := by simp; omega
      have ec : colB l c = true := by simp only [colB, hg, e, Bool.and_self]
      have hr := s6 _ (rd_mem l c hc.1 hc.2)
      have hp : 0 ≤ rd l c * m ∧ rd l c * m ≤ 20 * 40 := ⟨Int.mul_nonneg hr.1 a0, Int.mul_le_mul hr.2 (by omega) a0 (by omega)⟩
      obtain ⟨p, K6, h6⟩ := low_ev (rd l c * m) (wsum 0 l) hp.1 (by omega) (by omega)
      refine ⟨(p.1, p.2, true), K1 + K2 + K3 + K4 + K5 + K6 + 9, fun k hk => ?_⟩
      obtain ⟨j, rfl⟩ : ∃ j, k = j + 1 := ⟨k - 1, by omega⟩
      have ew : wrap64 (m * rd l c) = rd l c * m := by rw [Int.mul_comm]; exact wrap_small (by omega) (by omega)
      have ew2 : wrap64 (rd l c * m) = rd l c * m := wrap_small (by omega) (by omega)
      have hs := (h6 j (by omega)).1
      have hi := (h6 j (by omega)).2
      simp (maxSteps := 2000000) (disch := omega) only [spec_MeanOfColour.f, impl_MeanOfColour.f, spec_MeanOfColour.j0, impl_MeanOfColour.j0, l1In_eq, h1, h2, h3, h4, h5, hn, hw, e, ec, ew, ew2, hs, hi, Option.bind_some, if_true, Bool.not_true, Bool.false_eq_true, if_false, if_pos hc.1, if_pos hc.2, and_self]
    · have e : (decide (0 ≤ c) && decide (c ≤ (l.length : Int) - 1)) = false := by simp; omega
      have ec : colB l c = false := by simp only [colB, e, Bool.and_false]
      refine ⟨(0, 0, false), K1 + K2 + K5 + 9, fun k hk => ?_⟩
      obtain ⟨j, rfl⟩ : ∃ j, k = j + 1 := ⟨k - 1, by omega⟩
      simp (maxSteps := 2000000) (disch := omega) only [spec_MeanOfColour.f, impl_MeanOfColour.f, spec_MeanOfColour.j0, impl_MeanOfColour.j0, l1In_eq, h1, h2, h5, hn, hw, e, ec, Option.bind_some, if_true, Bool.not_false, and_self]
  · have hn' : numB l m = false := by simpa using hn
    refine ⟨(0, 0, false), K1 + K2 + 9, fun k hk => ?_⟩
    obtain ⟨j, rfl⟩ : ∃ j, k = j + 1 := ⟨k - 1, by omega⟩
    simp (maxSteps := 2000000) (disch := omega) only [spec_MeanOfColour.f, impl_MeanOfColour.f, spec_MeanOfColour.j0, impl_MeanOfColour.j0, h1, h2, hn', Option.bind_some, if_true, Bool.false_eq_true, if_false, and_self]

end Go.Proofs.Ytdlififooknddaa.Pure
