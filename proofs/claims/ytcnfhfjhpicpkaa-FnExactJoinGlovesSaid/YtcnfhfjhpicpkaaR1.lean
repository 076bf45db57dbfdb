/- Plain lemmas over the printed functions of this seat. -/
import Derived.Test.YtcnfhfjhpicpkaaR0
set_option linter.unusedVariables false
set_option linter.unusedSimpArgs false
namespace Go.Proofs.Ytcnfhfjhpicpkaa.Pure
open Go.RowKit Go.Proofs.Ytcnfhfjhpicpkaa.P Go.Proofs.YtcnfhfjhpicpkaaW.PrintWords Go.Proofs.YtcnfhfjhpicpkaaW.PrintLast Go.Proofs.YtcnfhfjhpicpkaaW.PrintMore

/-! ### gloves -/
theorem szGloves_eq (l r : List Int) (hl : l.length * 8 ≤ 140737488351232) (hr : r.length * 8 ≤ 140737488351232) :
    laws_szGloves.f l r 1048576 = some (if l.length + r.length ≤ 1048576 then 1048576 - (l.length : Int) - (r.length : Int) else -1) := by
  simp only [laws_szGloves.f, laws_szIntS.f]
  rw [wrap_small (x := 1048576 - (l.length : Int)) (by omega) (by omega)]
  by_cases h1 : (1048576 - (l.length : Int)) < 0
  · rw [if_pos h1, Option.bind_some, if_pos (by decide), if_neg (by omega)]
  · rw [if_neg h1, Option.bind_some, if_neg h1, wrap_small (x := 1048576 - (l.length : Int) - (r.length : Int)) (by omega) (by omega)]
    by_cases h2 : (1048576 - (l.length : Int) - (r.length : Int)) < 0
    · rw [if_pos h2, Option.bind_some, if_pos (by decide), if_neg (by omega)]
    · rw [if_neg h2, Option.bind_some, if_neg h2, if_pos (by omega)]
theorem toGloves_ev (l r : List Int) (hl : l.length ≤ 1048576) (hr : r.length ≤ 1048576) : ∃ K, ∀ k, K ≤ k → laws_toGloves.f k l r = some (l, r) := by
  obtain ⟨K1, h1⟩ := toIntS_ev l hl
  obtain ⟨K2, h2⟩ := toIntS_ev r hr
  refine ⟨K1 + K2, fun k hk => ?_⟩
  simp (disch := omega) only [laws_toGloves.f, h1, h2, Option.bind_some]
theorem eqGloves_ev (l r : List Int) (hl : l.length ≤ 1048576) (hr : r.length ≤ 1048576) : ∃ K, ∀ k, K ≤ k → laws_eqGloves.f k l r l r = some true := by
  obtain ⟨K1, h1⟩ := eqIntS_ev l hl
  obtain ⟨K2, h2⟩ := eqIntS_ev r hr
  refine ⟨K1 + K2, fun k hk => ?_⟩
  simp (disch := omega) only [laws_eqGloves.f, h1, h2, Option.bind_some, if_true]
/-- Are these gloves? -/
def gloveB (l r : List Int) : Bool := decide (1 ≤ l.length) && decide (l.length ≤ 8) && decide (r.length = l.length) && allIn 0 20 l && allIn 0 20 r && decide (0 < l.sum + r.sum)
theorem gloveB_iff {l r : List Int} : gloveB l r = true ↔ 1 ≤ l.length ∧ l.length ≤ 8 ∧ r.length = l.length ∧ (∀ x ∈ l, 0 ≤ x ∧ x ≤ 20) ∧ (∀ x ∈ r, 0 ≤ x ∧ x ≤ 20) ∧ 0 < l.sum + r.sum := by
  simp [gloveB, allIn_iff, and_assoc]
theorem small_sum (l : List Int) (h1 : l.length ≤ 8) (h : ∀ x ∈ l, 0 ≤ x ∧ x ≤ 20) : wsum 0 l = l.sum ∧ 0 ≤ l.sum ∧ l.sum ≤ 160 := by
  have hb := sum_bounds l 20 h
  refine ⟨?_, hb.1, by omega⟩
  rw [wsum_small l 0 (by omega) (fun x hx => ⟨(h x hx).1, by have := (h x hx).2; omega⟩) (by omega)]
  omega
theorem gvGood_ev (l r : List Int) (hl : l.length ≤ 17592186044416) (hr : r.length ≤ 17592186044416) : ∃ K, ∀ k, K ≤ k → spec_gvGood.f k l r = some (gloveB l r) := by
  obtain ⟨K1, h1⟩ := l1All_ev l 0 20 hl
  obtain ⟨K2, h2⟩ := l1All_ev r 0 20 hr
  obtain ⟨K3, h3⟩ := soSum_ev l hl
  obtain ⟨K4, h4⟩ := soSum_ev r hr
  refine ⟨K1 + K2 + K3 + K4, fun k hk => ?_⟩
  simp (disch := omega) only [spec_gvGood.f, l1In_eq, h1, h2, h3, h4, Option.bind_some, gloveB]
  by_cases hn : 1 ≤ l.length ∧ l.length ≤ 8
  · have e : (decide ((1 : Int) ≤ (l.length : Int)) && decide ((l.length : Int) ≤ 8)) = true := by simp; omega
    rw [if_pos e]
    by_cases he : r.length = l.length
    · rw [if_pos (by omega)]
      cases ha : allIn 0 20 l with
      | false => simp
      | true =>
        cases hb : allIn 0 20 r with
        | false => simp
        | true =>
          obtain ⟨s1, s2, s3⟩ := small_sum l hn.2 (allIn_iff.1 ha)
          obtain ⟨t1, t2, t3⟩ := small_sum r (by omega) (allIn_iff.1 hb)
          rw [if_pos rfl, if_pos rfl, s1, t1, wrap_small (by omega) (by omega)]
          simp [hn.1, hn.2, he]
    · rw [if_neg (by omega)]
      simp [he]
  · have e : ¬ (decide ((1 : Int) ≤ (l.length : Int)) && decide ((l.length : Int) ≤ 8)) = true := by simp; omega
    rw [if_neg e]
    have e2 : (decide (1 ≤ l.length) && decide (l.length ≤ 8)) = false := by simp; omega
    rw [e2]; rfl
theorem AreGloves_ev (l r : List Int) (hl : l.length ≤ 17592186044416) (hr : r.length ≤ 17592186044416) : ∃ K, ∀ k, K ≤ k → impl_AreGloves.f k l r = some (gloveB l r) := by
  obtain ⟨K3, h3⟩ := total_ev l hl
  obtain ⟨K4, h4⟩ := total_ev r hr
  refine ⟨K3 + K4, fun k hk => ?_⟩
  simp (disch := omega) only [impl_AreGloves.f, within_eq, areWithin_eq, h3, h4, Option.bind_some, gloveB]
  by_cases hn : 1 ≤ l.length ∧ l.length ≤ 8
  · have e : (decide ((1 : Int) ≤ (l.length : Int)) && decide ((l.length : Int) ≤ 8)) = true := by simp; omega
    rw [if_pos e]
    by_cases he : r.length = l.length
    · rw [if_pos (by omega)]
      cases ha : allIn 0 20 l with
      | false => simp
      | true =>
        cases hb : allIn 0 20 r with
        | false => simp
        | true =>
          obtain ⟨s1, s2, s3⟩ := small_sum l hn.2 (allIn_iff.1 ha)
          obtain ⟨t1, t2, t3⟩ := small_sum r (by omega) (allIn_iff.1 hb)
          rw [if_pos rfl, if_pos rfl, s1, t1, wrap_small (by omega) (by omega)]
          simp [hn.1, hn.2, he]
    · rw [if_neg (by omega)]
      simp [he]
  · have e : ¬ (decide ((1 : Int) ≤ (l.length : Int)) && decide ((l.length : Int) ≤ 8)) = true := by simp; omega
    rw [if_neg e]
    have e2 : (decide (1 ≤ l.length) && decide (l.length ≤ 8)) = false := by simp; omega
    rw [e2]; rfl

end Go.Proofs.Ytcnfhfjhpicpkaa.Pure
