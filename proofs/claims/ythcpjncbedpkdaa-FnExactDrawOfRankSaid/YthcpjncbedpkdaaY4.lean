/- Plain lemmas over the printed functions of this seat. -/
import Derived.Test.YthcpjncbedpkdaaY3
import Derived.Test.YthcpjncbedpkdaaPx4
import Derived.Test.YthcpjncbedpkdaaPx7
set_option linter.unusedVariables false
set_option linter.unusedSimpArgs false
namespace Go.Proofs.Ythcpjncbedpkdaa.Pure
open Go.RowKit Go.Proofs.Ythcpjncbedpkdaa.P Go.Proofs.YthcpjncbedpkdaaW.PrintWords Go.Proofs.YthcpjncbedpkdaaW.PrintLast Go.Proofs.YthcpjncbedpkdaaW.PrintMore

/-! ### .. with just so many pairs -/
def pp (l : List Int) (M P : Nat) : Nat := cnt half (restN l 0) M P
theorem pp_le {l : List Int} (h : GoodL l) (M P : Nat) : pp l M P ≤ 37822859361 :=
  Nat.le_trans (cnt_le half _ (restN_le h 0) _ _) (pow_le8 _ (by rw [restN_len]; have := h.1; omega))
/-- What CountPairDraws says. -/
def cpv (l : List Int) (a b : Int) : Int × Bool := if goodB l = true ∧ 0 ≤ a ∧ 0 ≤ b then ((pp l a.toNat b.toNat : Nat), true) else (0, false)
theorem cdv_bad {l : List Int} {a : Int} (h : ¬ (goodB l = true ∧ 0 ≤ a)) : cdv l a = (0, false) := if_neg h
theorem cdv_good {l : List Int} {M : Nat} (h : goodB l = true) : cdv l M = (((nn l 0 M : Nat) : Int), true) := by
  unfold cdv
  rw [if_pos ⟨h, Int.natCast_nonneg _⟩, Int.toNat_natCast]
theorem implCountPairDraws_ev (l : List Int) (hl : l.length ≤ 1048576) (a b : Int) : Ev (fun k => impl_CountPairDraws.f k l a b) (cpv l a b) := by
  obtain ⟨K1, h1⟩ := implCountDraws_ev l hl a
  unfold cpv
  by_cases hga : goodB l = true ∧ 0 ≤ a
  · obtain ⟨hg, ha⟩ := hga
    obtain ⟨M, rfl⟩ := Int.eq_ofNat_of_zero_le ha
    rw [cdv_good hg] at h1
    by_cases hb : 0 ≤ b
    · obtain ⟨P, rfl⟩ := Int.eq_ofNat_of_zero_le hb
      have hG := GoodL_of hg
      obtain ⟨K2, h2⟩ := totalG_ev hG
      obtain ⟨K3, h3⟩ := draws_ev hG
      obtain ⟨K4, h4⟩ := pairsG_ev hG
      rw [if_pos ⟨hg, ha, hb⟩, Int.toNat_natCast, Int.toNat_natCast]
      refine ⟨K1 + K2 + K3 + K4 + 2, fun k hk => ?_⟩
      obtain ⟨k, rfl⟩ : ∃ j, k = j + 1 := ⟨k - 1, by omega⟩
      have h1' : impl_CountDraws.f (k + 1) l M = some ((nn l 0 M : Int), true) := h1 (k + 1) (by omega)
      have h2' : impl_total.f k l = some (tot l : Int) := h2 k (by omega)
      have h3' : impl_draws.f k l = some (waysT l (tot l) (prh l)) := h3 k (by omega)
      have h4' : impl_pairsOf.f k l = some (prh l : Int) := h4 k (by omega)
      have q2 : decide ((P : Int) < 0) = false := decide_eq_false (by omega)
      show impl_CountPairDraws.f (k + 1) l M P = _
      unfold impl_CountPairDraws.f
      rw [h1', Option.bind_some, if_pos rfl, q2]
      simp only [impl_CountPairDraws.j0, Bool.false_eq_true, if_false]
      rw [h2', Option.bind_some]
      by_cases hM : M > tot l
      · have hz : pp l M P = 0 := cnt_zero_k half _ _ _ hM
        rw [if_pos (by omega), hz]; rfl
      · have q3 : ¬ ((M : Int) > (tot l : Int)) := by omega
        rw [if_neg q3, h4', Option.bind_some]
        by_cases hP : P > prh l
        · have hz : pp l M P = 0 := cnt_zero_p _ _ _ hP
          rw [if_pos (by omega), hz]; rfl
        · have q7 : ¬ ((P : Int) > (prh l : Int)) := by omega
          have q4 : (0 : Int) < (((waysT l (tot l) (prh l)).length : Nat) : Int) := by rw [waysT_len]; omega
          have q5 : rd_L2 (waysT l (tot l) (prh l)) 0 = tabI l (tot l) (prh l) 0 := waysT_at l _ _ 0 (Nat.zero_le _)
          have q6 : (M : Int) < (((tabI l (tot l) (prh l) 0).length : Nat) : Int) := by rw [tabI_len]; omega
          have q8 : (P : Int) < (((rowI l (prh l) 0 M).length : Nat) : Int) := by rw [rowI_len]; omega
          rw [if_neg q7, h3', Option.bind_some, if_pos q4, if_pos ha, q5, if_pos q6, tabI_at _ _ _ _ _ (by omega), if_pos hb, if_pos q8, rowI_at _ _ _ _ _ (by omega)]
          rfl
    · rw [if_neg (fun h => hb h.2.2)]
      refine ⟨K1 + 2, fun k hk => ?_⟩
      obtain ⟨k, rfl⟩ : ∃ j, k = j + 1 := ⟨k - 1, by omega⟩
      have h1' : impl_CountDraws.f (k + 1) l M = some ((nn l 0 M : Int), true) := h1 (k + 1) (by omega)
      have q2 : decide (b < 0) = true := decide_eq_true (by omega)
      show impl_CountPairDraws.f (k + 1) l M b = _
      unfold impl_CountPairDraws.f
      rw [h1', Option.bind_some, if_pos rfl, q2]
      simp only [impl_CountPairDraws.j0, if_true]
  · rw [if_neg (fun h => hga ⟨h.1, h.2.1⟩)]
    rw [cdv_bad hga] at h1
    refine ⟨K1 + 2, fun k hk => ?_⟩
    obtain ⟨k, rfl⟩ : ∃ j, k = j + 1 := ⟨k - 1, by omega⟩
    have h1' : impl_CountDraws.f (k + 1) l a = some (0, false) := h1 (k + 1) (by omega)
    show impl_CountPairDraws.f (k + 1) l a b = _
    unfold impl_CountPairDraws.f
    rw [h1', Option.bind_some, if_neg (by decide)]
    simp only [impl_CountPairDraws.j0, if_true]
theorem specCountPairDraws_ev (l : List Int) (hl : l.length ≤ 1048576) (a b : Int) : Ev (fun k => spec_CountPairDraws.f k l a b) (cpv l a b) := by
  obtain ⟨K1, h1⟩ := specCountDraws_ev l hl a
  unfold cpv
  by_cases hga : goodB l = true ∧ 0 ≤ a
  · obtain ⟨hg, ha⟩ := hga
    obtain ⟨M, rfl⟩ := Int.eq_ofNat_of_zero_le ha
    rw [cdv_good hg] at h1
    by_cases hb : 0 ≤ b
    · obtain ⟨P, rfl⟩ := Int.eq_ofNat_of_zero_le hb
      have hG := GoodL_of hg
      have ht := tot_le hG
      have hph := prh_le hG
      obtain ⟨K2, h2⟩ := soSumG_ev hG
      obtain ⟨K4, h4⟩ := soPairsG_ev hG
      rw [if_pos ⟨hg, ha, hb⟩, Int.toNat_natCast, Int.toNat_natCast]
      by_cases hM : M > tot l
      · have hz : pp l M P = 0 := cnt_zero_k half _ _ _ hM
        refine ⟨K1 + K2 + K4 + 3, fun k hk => ?_⟩
        obtain ⟨k, rfl⟩ : ∃ j, k = j + 1 + 1 := ⟨k - 2, by omega⟩
        have h1' : spec_CountDraws.f (k + 1 + 1) l M = some ((nn l 0 M : Int), true) := h1 (k + 1 + 1) (by omega)
        have h2' : spec_soSum.f (k + 1) l = some (tot l : Int) := h2 (k + 1) (by omega)
        have q2 : decide ((P : Int) < 0) = false := decide_eq_false (by omega)
        have q3 : (M : Int) > (tot l : Int) := by omega
        show spec_CountPairDraws.f (k + 1 + 1) l M P = _
        unfold spec_CountPairDraws.f
        rw [h1', Option.bind_some, if_pos rfl, q2]
        simp only [spec_CountPairDraws.j0, Bool.false_eq_true, if_false]
        rw [h2', Option.bind_some, if_pos q3, hz]
        rfl
      · by_cases hP : P > prh l
        · have hz : pp l M P = 0 := cnt_zero_p _ _ _ hP
          refine ⟨K1 + K2 + K4 + 3, fun k hk => ?_⟩
          obtain ⟨k, rfl⟩ : ∃ j, k = j + 1 + 1 := ⟨k - 2, by omega⟩
          have h1' : spec_CountDraws.f (k + 1 + 1) l M = some ((nn l 0 M : Int), true) := h1 (k + 1 + 1) (by omega)
          have h2' : spec_soSum.f (k + 1) l = some (tot l : Int) := h2 (k + 1) (by omega)
          have h4' : spec_soPairs.f (k + 1) l = some (prh l : Int) := h4 (k + 1) (by omega)
          have q2 : decide ((P : Int) < 0) = false := decide_eq_false (by omega)
          have q3 : ¬ ((M : Int) > (tot l : Int)) := by omega
          have q4 : (P : Int) > (prh l : Int) := by omega
          show spec_CountPairDraws.f (k + 1 + 1) l M P = _
          unfold spec_CountPairDraws.f
          rw [h1', Option.bind_some, if_pos rfl, q2]
          simp only [spec_CountPairDraws.j0, Bool.false_eq_true, if_false]
          rw [h2', Option.bind_some, if_neg q3, h4', Option.bind_some, if_pos q4, hz]
          rfl
        · obtain ⟨K5, h5⟩ := soCounts_ev l hG M P P half ⟨by omega, by omega, .inr ⟨rfl, rfl⟩⟩
          refine ⟨K1 + K2 + K4 + K5 + 3, fun k hk => ?_⟩
          obtain ⟨k, rfl⟩ : ∃ j, k = j + 1 + 1 := ⟨k - 2, by omega⟩
          have h1' : spec_CountDraws.f (k + 1 + 1) l M = some ((nn l 0 M : Int), true) := h1 (k + 1 + 1) (by omega)
          have h2' : spec_soSum.f (k + 1) l = some (tot l : Int) := h2 (k + 1) (by omega)
          have h4' : spec_soPairs.f (k + 1) l = some (prh l : Int) := h4 (k + 1) (by omega)
          have h5' : spec_soCounts.f (k + 1) l M P = some (pp l M P : Int) := h5 (k + 1) (by omega)
          have q2 : decide ((P : Int) < 0) = false := decide_eq_false (by omega)
          have q3 : ¬ ((M : Int) > (tot l : Int)) := by omega
          have q4 : ¬ ((P : Int) > (prh l : Int)) := by omega
          show spec_CountPairDraws.f (k + 1 + 1) l M P = _
          unfold spec_CountPairDraws.f
          rw [h1', Option.bind_some, if_pos rfl, q2]
          simp only [spec_CountPairDraws.j0, Bool.false_eq_true, if_false]
          rw [h2', Option.bind_some, if_neg q3, h4', Option.bind_some, if_neg q4, h5', Option.bind_some]
    · rw [if_neg (fun h => hb h.2.2)]
      refine ⟨K1 + 2, fun k hk => ?_⟩
      obtain ⟨k, rfl⟩ : ∃ j, k = j + 1 := ⟨k - 1, by omega⟩
      have h1' : spec_CountDraws.f (k + 1) l M = some ((nn l 0 M : Int), true) := h1 (k + 1) (by omega)
      have q2 : decide (b < 0) = true := decide_eq_true (by omega)
      show spec_CountPairDraws.f (k + 1) l M b = _
      unfold spec_CountPairDraws.f
      rw [h1', Option.bind_some, if_pos rfl, q2]
      simp only [spec_CountPairDraws.j0, if_true]
  · rw [if_neg (fun h => hga ⟨h.1, h.2.1⟩)]
    rw [cdv_bad hga] at h1
    refine ⟨K1 + 2, fun k hk => ?_⟩
    obtain ⟨k, rfl⟩ : ∃ j, k = j + 1 := ⟨k - 1, by omega⟩
    have h1' : spec_CountDraws.f (k + 1) l a = some (0, false) := h1 (k + 1) (by omega)
    show spec_CountPairDraws.f (k + 1) l a b = _
    unfold spec_CountPairDraws.f
    rw [h1', Option.bind_some, if_neg (by decide)]
    simp only [spec_CountPairDraws.j0, if_true]

end Go.Proofs.Ythcpjncbedpkdaa.Pure
