/- Plain lemmas over the printed functions of this seat. -/
import Derived.Test.YtcnfhfjhpicpkaaY5
import Derived.Test.YtcnfhfjhpicpkaaPx17
set_option linter.unusedVariables false
set_option linter.unusedSimpArgs false
namespace Go.Proofs.Ytcnfhfjhpicpkaa.Pure
open Go.RowKit Go.Proofs.Ytcnfhfjhpicpkaa.P Go.Proofs.YtcnfhfjhpicpkaaW.PrintWords Go.Proofs.YtcnfhfjhpicpkaaW.PrintLast Go.Proofs.YtcnfhfjhpicpkaaW.PrintMore

theorem lrs_l (l r : List Int) (h1 : l.length ≤ 8) (h2 : r.length = l.length) (hl : ∀ x ∈ l, 0 ≤ x ∧ x ≤ 20) (hr : ∀ x ∈ r, 0 ≤ x ∧ x ≤ 20) (a : Int) (ha : 1 ≤ a ∧ a ≤ l.sum) (v : Int) (hv : LR l r a v) : ∀ (n y : Nat), r.sum + 1 - y = n → 1 ≤ y → (v = -1 ∨ (y : Int) ≤ v) → (y : Int) ≤ r.sum + 1 →
    Ev (fun k => spec_LeastRights.l0 k a y l r) (mx v 0, decide (v ≥ 0)) := by
  obtain ⟨s1, s2, s3⟩ := small_sum l h1 hl
  obtain ⟨t1, t2, t3⟩ := small_sum r (by omega) hr
  obtain ⟨K1, k1⟩ := soSum_ev r (by omega)
  rw [t1] at k1
  intro n
  induction n with
  | zero =>
    intro y hd hy hvy hle
    have hv1 : v = -1 := by
      rcases hv with hv | hv
      · exact hv.1
      · rcases hvy with h | h
        · exact h
        · omega
    refine ⟨K1 + 1, fun k hk => ?_⟩
    obtain ⟨m, rfl⟩ : ∃ m, k = m + 1 := ⟨k - 1, by omega⟩
    simp only [spec_LeastRights.l0]
    rw [k1 m (by omega), Option.bind_some, if_neg (by omega), hv1]
    rfl
  | succ n ih =>
    intro y hd hy hvy hle
    have d1 : (y : Int) ≤ r.sum := by omega
    obtain ⟨K2, k2⟩ := gvSafe_ev l r h1 h2 hl hr a y (by omega) (by omega)
    simp only at k2
    have by1 : y < 1000 := by omega
    have ey := wrap_succ by1 (by omega)
    rcases hv with hv | hv
    · have hb := hv.2 y (by omega) d1
      have ih' := ih (y + 1) (by omega) (by omega) (.inl hv.1) (by omega)
      refine Ev.stepFrom ih' (K1 + K2) (fun k hk => ?_)
      simp only [spec_LeastRights.l0]
      rw [k1 k (by omega), Option.bind_some, if_pos d1, k2 k (by omega), hb, Option.bind_some, ey]
      rfl
    · by_cases hvy2 : (y : Int) = v
      · refine ⟨K1 + K2 + 1, fun k hk => ?_⟩
        obtain ⟨m, rfl⟩ : ∃ m, k = m + 1 := ⟨k - 1, by omega⟩
        have hb := hv.2.2.1
        rw [← hvy2] at hb
        simp only [spec_LeastRights.l0]
        rw [k1 m (by omega), Option.bind_some, if_pos d1, k2 m (by omega), hb, Option.bind_some]
        have e1 : mx v 0 = y := by unfold mx; omega
        rw [e1, decide_eq_true (by omega)]
        rfl
      · have hb := hv.2.2.2 y (by omega)
        have ih' := ih (y + 1) (by omega) (by omega) (.inr (by omega)) (by omega)
        refine Ev.stepFrom ih' (K1 + K2) (fun k hk => ?_)
        simp only [spec_LeastRights.l0]
        rw [k1 k (by omega), Option.bind_some, if_pos d1, k2 k (by omega), hb, Option.bind_some, ey]
        rfl
theorem LeastRights_ev (l r : List Int) (a : Int) (hl : l.length ≤ 1048576) (hr : r.length ≤ 1048576) : ∃ v K, ∀ k, K ≤ k → spec_LeastRights.f k l r a = some v ∧ impl_LeastRights.f k l r a = some v := by
  obtain ⟨K1, h1⟩ := gvGood_ev l r (by omega) (by omega)
  obtain ⟨K2, h2⟩ := AreGloves_ev l r (by omega) (by omega)
  obtain ⟨K5, h5⟩ := soSum_ev l (by omega)
  obtain ⟨K7, h7⟩ := total_ev l (by omega)
  by_cases hc : gloveB l r = true ∧ (decide (1 ≤ a) && decide (a ≤ wsum 0 l)) = true
  · obtain ⟨hg, ha⟩ := hc
    obtain ⟨g1, g2, g3, g4, g5, g6⟩ := gloveB_iff.1 hg
    obtain ⟨s1, s2, s3⟩ := small_sum l g2 g4
    obtain ⟨t1, t2, t3⟩ := small_sum r (by omega) g5
    have ha' := ha
    simp only [Bool.and_eq_true, decide_eq_true_eq, s1] at ha'
    obtain ⟨v, hv, K3, h3⟩ := lr_ev l r g2 g3 g4 g5 a ha'
    obtain ⟨K4, h4⟩ := lrs_l l r g2 g3 g4 g5 a ha' v hv (r.sum.toNat) 1 (by omega) (by omega) (by rcases hv with h | h <;> omega) (by omega)
    simp only at h3 h4
    refine ⟨(mx v 0, decide (v ≥ 0)), K1 + K2 + K3 + K4 + K5 + K7 + 1, fun k hk => ?_⟩
    obtain ⟨m, rfl⟩ : ∃ m, k = m + 1 := ⟨k - 1, by omega⟩
    have q4 : spec_LeastRights.l0 m a 1 l r = some (mx v 0, decide (v ≥ 0)) := h4 m (by omega)
    simp (disch := omega) only [spec_LeastRights.f, spec_LeastRights.j0, impl_LeastRights.f, l1In_eq, within_eq, h1, h2, h3, h5, h7, q4, hg, ha, Option.bind_some, if_true, Bool.not_true, Bool.false_eq_true, if_false, and_self]
  · refine ⟨(0, false), K1 + K2 + K5 + K7 + 1, fun k hk => ?_⟩
    obtain ⟨m, rfl⟩ : ∃ m, k = m + 1 := ⟨k - 1, by omega⟩
    simp (disch := omega) only [spec_LeastRights.f, spec_LeastRights.j0, impl_LeastRights.f, l1In_eq, within_eq, h1, h2, h5, h7, Option.bind_some]
    cases hg : gloveB l r with
    | false => simp
    | true =>
      cases ha : (decide (1 ≤ a) && decide (a ≤ wsum 0 l)) with
      | false => simp
      | true => exact absurd ⟨hg, ha⟩ hc

end Go.Proofs.Ytcnfhfjhpicpkaa.Pure
