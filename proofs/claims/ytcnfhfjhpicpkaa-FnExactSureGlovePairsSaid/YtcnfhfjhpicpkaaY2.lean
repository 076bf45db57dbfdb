/- Plain lemmas over the printed functions of this seat. -/
import Derived.Test.YtcnfhfjhpicpkaaY1
import Derived.Test.YtcnfhfjhpicpkaaPx8
import Derived.Test.YtcnfhfjhpicpkaaPx4
set_option linter.unusedVariables false
set_option linter.unusedSimpArgs false
namespace Go.Proofs.Ytcnfhfjhpicpkaa.Pure
open Go.RowKit Go.Proofs.Ytcnfhfjhpicpkaa.P Go.Proofs.YtcnfhfjhpicpkaaW.PrintWords Go.Proofs.YtcnfhfjhpicpkaaW.PrintLast Go.Proofs.YtcnfhfjhpicpkaaW.PrintMore

theorem l1Least_eq (a b : Int) : spec_l1Least.f a b = some (mn a b) := by unfold spec_l1Least.f mn; split <;> split <;> first | rfl | (congr 1; omega)
theorem gvPairs_l (l r : List Int) (hl : l.length ≤ 1048576) (he : r.length = l.length) : ∀ (n k i : Nat) (a : Int), l.length - i = n → i ≤ l.length → n < k →
    spec_gvPairs.l0 k a l l.length i l r = some (zw (mn) a (l.drop i) (r.drop i)) := by
  intro n
  induction n with
  | zero =>
    intro k i a hd hle hk
    obtain ⟨m, rfl⟩ : ∃ m, k = m + 1 := ⟨k - 1, by omega⟩
    obtain rfl : i = l.length := by omega
    simp only [spec_gvPairs.l0]
    rw [if_neg (by omega), List.drop_length]
    rfl
  | succ n ih =>
    intro k i a hd hle hk
    obtain ⟨m, rfl⟩ : ∃ m, k = m + 1 := ⟨k - 1, by omega⟩
    have hlt : i < l.length := by omega
    simp only [spec_gvPairs.l0]
    rw [if_pos (by omega), if_pos (by omega), if_pos (by omega), if_pos (by omega), rd_at l i hlt, rd_at r i (by omega), l1Least_eq, Option.bind_some, wrap_succ hlt (by omega), ih m (i + 1) _ (by omega) (by omega) (by omega), List.drop_eq_getElem_cons hlt, List.drop_eq_getElem_cons (by omega : i < r.length)]
    rfl
theorem gvPairs_ev (l r : List Int) (hl : l.length ≤ 1048576) (he : r.length = l.length) : ∃ K, ∀ k, K ≤ k → spec_gvPairs.f k l r = some (zw (mn) 0 l r) := by
  refine ⟨l.length + 1, fun k hk => ?_⟩
  unfold spec_gvPairs.f
  have h := gvPairs_l l r hl he l.length k 0 0 (by omega) (by omega) (by omega)
  simpa using h
theorem pairs1_eq (a b : Int) : impl_Gloves_pairs_1.f a b = some (mn a b) := rfl
theorem bothPairs_l (l r : List Int) (hl : l.length ≤ 1048576) (he : r.length = l.length) : ∀ (n k i : Nat) (a : Int), l.length - i = n → i ≤ l.length → n < k →
    impl_Gloves_both_of_impl_Gloves_pairs_1.l0 k a l l.length i l r = some (zw (mn) a (l.drop i) (r.drop i)) := by
  intro n
  induction n with
  | zero =>
    intro k i a hd hle hk
    obtain ⟨m, rfl⟩ : ∃ m, k = m + 1 := ⟨k - 1, by omega⟩
    obtain rfl : i = l.length := by omega
    simp only [impl_Gloves_both_of_impl_Gloves_pairs_1.l0]
    rw [if_neg (by omega), List.drop_length]
    rfl
  | succ n ih =>
    intro k i a hd hle hk
    obtain ⟨m, rfl⟩ : ∃ m, k = m + 1 := ⟨k - 1, by omega⟩
    have hlt : i < l.length := by omega
    simp only [impl_Gloves_both_of_impl_Gloves_pairs_1.l0]
    rw [if_pos (by omega), if_pos (by omega), if_pos (by omega), if_pos (by omega), rd_at l i hlt, rd_at r i (by omega), pairs1_eq, Option.bind_some, wrap_succ hlt (by omega), ih m (i + 1) _ (by omega) (by omega) (by omega), List.drop_eq_getElem_cons hlt, List.drop_eq_getElem_cons (by omega : i < r.length)]
    rfl
theorem bothPairs_ev (l r : List Int) (hl : l.length ≤ 1048576) (he : r.length = l.length) : ∃ K, ∀ k, K ≤ k → impl_Gloves_both_of_impl_Gloves_pairs_1.f k l r = some (zw (mn) 0 l r) := by
  refine ⟨l.length + 1, fun k hk => ?_⟩
  unfold impl_Gloves_both_of_impl_Gloves_pairs_1.f
  have h := bothPairs_l l r hl he l.length k 0 0 (by omega) (by omega) (by omega)
  simpa using h
theorem pairsG_ev (l r : List Int) (hl : l.length ≤ 1048576) (he : r.length = l.length) : ∃ K, ∀ k, K ≤ k → impl_Gloves_pairs.f k l r = some (zw mn 0 l r) := by
  obtain ⟨K, h⟩ := bothPairs_ev l r hl he
  refine ⟨K, fun k hk => ?_⟩
  unfold impl_Gloves_pairs.f
  rw [h k hk]; rfl

end Go.Proofs.Ytcnfhfjhpicpkaa.Pure
