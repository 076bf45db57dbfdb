/- Plain lemmas over the printed functions of this seat. -/
import Derived.Test.YthcpjncbedpkdaaY4
import Derived.Test.YthcpjncbedpkdaaPx5
set_option linter.unusedVariables false
set_option linter.unusedSimpArgs false
namespace Go.Proofs.Ythcpjncbedpkdaa.Pure
open Go.RowKit Go.Proofs.Ythcpjncbedpkdaa.P Go.Proofs.YthcpjncbedpkdaaW.PrintWords Go.Proofs.YthcpjncbedpkdaaW.PrintLast Go.Proofs.YthcpjncbedpkdaaW.PrintMore

/-! ### the draws with each number of pairs are together all draws -/
theorem whole_l (l : List Int) (M : Nat) (hg : goodB l = true) (hl : l.length ≤ 1048576) (hM : M ≤ 200) : ∀ (e p : Nat), M / 2 + 1 - p = e → p ≤ M / 2 + 1 →
    Ev (fun k => laws_FnChancesWhole.l0 k l M ((nn l 0 M : Nat) : Int) ((sumTo p (fun q => pp l M q) : Nat) : Int) p) true := by
  have hG := GoodL_of hg
  have hn := nn_le hG 0 M
  have hall : sumTo (M / 2 + 1) (fun q => pp l M q) = nn l 0 M := cnt_sum _ _ _ (.inr (Nat.le_refl _))
  intro e
  induction e with
  | zero =>
    intro p he hp
    obtain rfl : p = M / 2 + 1 := by omega
    refine Ev.now (fun k => ?_)
    have q1 : wrap64 (2 * ((M / 2 + 1 : Nat) : Int)) = 2 * ((M / 2 + 1 : Nat) : Int) := wrap_small (by omega) (by omega)
    have q2 : ¬ (2 * ((M / 2 + 1 : Nat) : Int) ≤ (M : Int)) := by clear q1; omega
    simp only [laws_FnChancesWhole.l0]
    rw [q1, if_neg q2, hall]
    simp
  | succ e ih =>
    intro p he hp
    have hle : sumTo (p + 1) (fun q => pp l M q) ≤ nn l 0 M := by
      rw [← hall]; exact sumTo_mono _ _ _ (by omega)
    have hs : sumTo (p + 1) (fun q => pp l M q) = sumTo p (fun q => pp l M q) + pp l M p := rfl
    have q2 : 2 * (p : Int) ≤ (M : Int) := by omega
    have b1 : -9223372036854775808 ≤ 2 * (p : Int) := by omega
    have b2 : 2 * (p : Int) ≤ 9223372036854775807 := by omega
    have b3 : sumTo p (fun q => pp l M q) + pp l M p ≤ 4000000000000 := by omega
    have b4 : p ≤ 4000000000000 := by omega
    obtain ⟨K1, h1⟩ := implCountPairDraws_ev l hl M p
    have hv : cpv l M p = (((pp l M p : Nat) : Int), true) := by
      unfold cpv
      rw [if_pos ⟨hg, Int.natCast_nonneg _, Int.natCast_nonneg _⟩, Int.toNat_natCast, Int.toNat_natCast]
    refine Ev.stepFrom (ih (p + 1) (by omega) (by omega)) K1 (fun k hk => ?_)
    have h1' : impl_CountPairDraws.f k l M p = some (((pp l M p : Nat) : Int), true) := (h1 k hk).trans (by rw [hv])
    simp only [laws_FnChancesWhole.l0]
    rw [wrap_small b1 b2, if_pos q2, h1', Option.bind_some, if_pos rfl, wadd_ _ _ b3, wadd1_ _ b4, hs]
theorem whole (l : List Int) (a : Int) : ∃ k, laws_FnChancesWhole.f k l a = some true := by
  by_cases hl : (l.length : Int) > 1000
  · exact ⟨0, by unfold laws_FnChancesWhole.f; rw [if_pos hl]⟩
  · have hl2 : l.length ≤ 1048576 := by omega
    obtain ⟨K1, h1⟩ := implCountDraws_ev l hl2 a
    obtain ⟨K2, h2⟩ := specCountDraws_ev l hl2 a
    by_cases hga : goodB l = true ∧ 0 ≤ a
    · obtain ⟨hg, ha⟩ := hga
      obtain ⟨M, rfl⟩ := Int.eq_ofNat_of_zero_le ha
      rw [cdv_good hg] at h1 h2
      by_cases hM : M ≤ 200
      · obtain ⟨K3, h3⟩ := whole_l l M hg hl2 hM (M / 2 + 1) 0 rfl (by omega)
        refine ⟨K1 + K2 + K3 + 3, ?_⟩
        have e1 : impl_CountDraws.f (K1 + K2 + K3 + 3) l M = _ := h1 _ (by omega)
        have e2 : spec_CountDraws.f (K1 + K2 + K3 + 3) l M = _ := h2 _ (by omega)
        have e3 : laws_FnChancesWhole.l0 (K1 + K2 + K3 + 1) l M ((nn l 0 M : Nat) : Int) 0 0 = some true := h3 _ (by omega)
        have q : decide ((M : Int) > 200) = false := decide_eq_false (by omega)
        unfold laws_FnChancesWhole.f
        rw [if_neg hl, e1, Option.bind_some, e2, Option.bind_some]
        simp only [laws_FnChancesWhole.j0, laws_FnChancesWhole.j1, bne_self_eq_false, Bool.false_eq_true, if_false, if_true, q, e3]
      · refine ⟨K1 + K2 + 3, ?_⟩
        have e1 : impl_CountDraws.f (K1 + K2 + 3) l M = _ := h1 _ (by omega)
        have e2 : spec_CountDraws.f (K1 + K2 + 3) l M = _ := h2 _ (by omega)
        have q : decide ((M : Int) > 200) = true := decide_eq_true (by omega)
        unfold laws_FnChancesWhole.f
        rw [if_neg hl, e1, Option.bind_some, e2, Option.bind_some]
        simp only [laws_FnChancesWhole.j0, laws_FnChancesWhole.j1, bne_self_eq_false, Bool.false_eq_true, if_false, if_true, q]
    · rw [cdv_bad hga] at h1 h2
      refine ⟨K1 + K2 + 3, ?_⟩
      have e1 : impl_CountDraws.f (K1 + K2 + 3) l a = _ := h1 _ (by omega)
      have e2 : spec_CountDraws.f (K1 + K2 + 3) l a = _ := h2 _ (by omega)
      unfold laws_FnChancesWhole.f
      rw [if_neg hl, e1, Option.bind_some, e2, Option.bind_some]
      simp only [laws_FnChancesWhole.j0, laws_FnChancesWhole.j1, bne_self_eq_false, Bool.false_eq_true, if_false, if_true]
/-- The law FnChancesWhole. -/
theorem FnChancesWhole : laws_FnChancesWhole.Pure := fun l a _ _ _ _ => whole l a

end Go.Proofs.Ythcpjncbedpkdaa.Pure
