/- Plain lemmas over the printed functions of this seat. -/
import Derived.Test.YtcnfhfjhpicpkaaY2
import Derived.Test.YtcnfhfjhpicpkaaPx12
import Derived.Test.YtcnfhfjhpicpkaaPx5
set_option linter.unusedVariables false
set_option linter.unusedSimpArgs false
namespace Go.Proofs.Ytcnfhfjhpicpkaa.Pure
open Go.RowKit Go.Proofs.Ytcnfhfjhpicpkaa.P Go.Proofs.YtcnfhfjhpicpkaaW.PrintWords Go.Proofs.YtcnfhfjhpicpkaaW.PrintLast Go.Proofs.YtcnfhfjhpicpkaaW.PrintMore

theorem l1Most_eq (a b : Int) : spec_l1Most.f a b = some (mx a b) := by unfold spec_l1Most.f mx; split <;> split <;> first | rfl | (congr 1; omega)
theorem gvMore_l (l r : List Int) (hl : l.length ≤ 1048576) (he : r.length = l.length) : ∀ (n k i : Nat) (a : Int), l.length - i = n → i ≤ l.length → n < k →
    spec_gvMore.l0 k a l l.length i l r = some (zw (mx) a (l.drop i) (r.drop i)) := by
  intro n
  induction n with
  | zero =>
    intro k i a hd hle hk
    obtain ⟨m, rfl⟩ : ∃ m, k = m + 1 := ⟨k - 1, by omega⟩
    obtain rfl : i = l.length := by omega
    simp only [spec_gvMore.l0]
    rw [if_neg (by omega), List.drop_length]
    rfl
  | succ n ih =>
    intro k i a hd hle hk
    obtain ⟨m, rfl⟩ : ∃ m, k = m + 1 := ⟨k - 1, by omega⟩
    have hlt : i < l.length := by omega
    simp only [spec_gvMore.l0]
    rw [if_pos (by omega), if_pos (by omega), if_pos (by omega), if_pos (by omega), rd_at l i hlt, rd_at r i (by omega), l1Most_eq, Option.bind_some, wrap_succ hlt (by omega), ih m (i + 1) _ (by omega) (by omega) (by omega), List.drop_eq_getElem_cons hlt, List.drop_eq_getElem_cons (by omega : i < r.length)]
    rfl
theorem gvMore_ev (l r : List Int) (hl : l.length ≤ 1048576) (he : r.length = l.length) : ∃ K, ∀ k, K ≤ k → spec_gvMore.f k l r = some (zw (mx) 0 l r) := by
  refine ⟨l.length + 1, fun k hk => ?_⟩
  unfold spec_gvMore.f
  have h := gvMore_l l r hl he l.length k 0 0 (by omega) (by omega) (by omega)
  simpa using h
theorem more1_eq (a b : Int) : impl_SureGlovePairs_1.f a b = some (mx a b) := rfl
theorem bothMore_l (l r : List Int) (hl : l.length ≤ 1048576) (he : r.length = l.length) : ∀ (n k i : Nat) (a : Int), l.length - i = n → i ≤ l.length → n < k →
    impl_Gloves_both_of_impl_SureGlovePairs_1.l0 k a l l.length i l r = some (zw (mx) a (l.drop i) (r.drop i)) := by
  intro n
  induction n with
  | zero =>
    intro k i a hd hle hk
    obtain ⟨m, rfl⟩ : ∃ m, k = m + 1 := ⟨k - 1, by omega⟩
    obtain rfl : i = l.length := by omega
    simp only [impl_Gloves_both_of_impl_SureGlovePairs_1.l0]
    rw [if_neg (by omega), List.drop_length]
    rfl
  | succ n ih =>
    intro k i a hd hle hk
    obtain ⟨m, rfl⟩ : ∃ m, k = m + 1 := ⟨k - 1, by omega⟩
    have hlt : i < l.length := by omega
    simp only [impl_Gloves_both_of_impl_SureGlovePairs_1.l0]
    rw [if_pos (by omega), if_pos (by omega), if_pos (by omega), if_pos (by omega), rd_at l i hlt, rd_at r i (by omega), more1_eq, Option.bind_some, wrap_succ hlt (by omega), ih m (i + 1) _ (by omega) (by omega) (by omega), List.drop_eq_getElem_cons hlt, List.drop_eq_getElem_cons (by omega : i < r.length)]
    rfl
theorem bothMore_ev (l r : List Int) (hl : l.length ≤ 1048576) (he : r.length = l.length) : ∃ K, ∀ k, K ≤ k → impl_Gloves_both_of_impl_SureGlovePairs_1.f k l r = some (zw (mx) 0 l r) := by
  refine ⟨l.length + 1, fun k hk => ?_⟩
  unfold impl_Gloves_both_of_impl_SureGlovePairs_1.f
  have h := bothMore_l l r hl he l.length k 0 0 (by omega) (by omega) (by omega)
  simpa using h
theorem SureGlovePairs_ev (l r : List Int) (a : Int) (hl : l.length ≤ 1048576) (hr : r.length ≤ 1048576) : ∃ v K, ∀ k, K ≤ k → spec_SureGlovePairs.f k l r a = some v ∧ impl_SureGlovePairs.f k l r a = some v := by
  obtain ⟨K1, h1⟩ := gvGood_ev l r (by omega) (by omega)
  obtain ⟨K2, h2⟩ := AreGloves_ev l r (by omega) (by omega)
  cases hg : gloveB l r with
  | false =>
    refine ⟨(0, false), K1 + K2, fun k hk => ?_⟩
    simp (disch := omega) only [spec_SureGlovePairs.f, impl_SureGlovePairs.f, h1, h2, hg, Option.bind_some, Bool.false_eq_true, if_false, and_self]
  | true =>
    obtain ⟨K3, h3⟩ := gvPairs_ev l r hl (gloveB_iff.1 hg).2.2.1
    obtain ⟨K4, h4⟩ := pairsG_ev l r hl (gloveB_iff.1 hg).2.2.1
    obtain ⟨K5, h5⟩ := gvMore_ev l r hl (gloveB_iff.1 hg).2.2.1
    obtain ⟨K6, h6⟩ := bothMore_ev l r hl (gloveB_iff.1 hg).2.2.1
    refine ⟨if (decide (1 ≤ a) && decide (a ≤ zw mn 0 l r)) = true then (wrap64 (zw mx 0 l r + a), true) else (0, false), K1 + K2 + K3 + K4 + K5 + K6, fun k hk => ?_⟩
    simp (disch := omega) only [spec_SureGlovePairs.f, impl_SureGlovePairs.f, l1In_eq, within_eq, h1, h2, h3, h4, h5, h6, hg, Option.bind_some, if_true]
    cases (decide (1 ≤ a) && decide (a ≤ zw mn 0 l r)) <;> simp

end Go.Proofs.Ytcnfhfjhpicpkaa.Pure
