/- Plain lemmas over the printed functions of this seat. -/
import Derived.Test.YtcnfhfjhpicpkaaY1
import Derived.Test.YtcnfhfjhpicpkaaPx9
set_option linter.unusedVariables false
set_option linter.unusedSimpArgs false
namespace Go.Proofs.Ytcnfhfjhpicpkaa.Pure
open Go.RowKit Go.Proofs.Ytcnfhfjhpicpkaa.P Go.Proofs.YtcnfhfjhpicpkaaW.PrintWords Go.Proofs.YtcnfhfjhpicpkaaW.PrintLast Go.Proofs.YtcnfhfjhpicpkaaW.PrintMore

theorem gvTwo_l (l r : List Int) (hl : l.length ≤ 1048576) (he : r.length = l.length) : ∀ (n k i : Nat) (a : Int), l.length - i = n → i ≤ l.length → n < k →
    spec_gvTwo.l0 k a l l.length i l r = some (zw (fun x y => wrap64 (x * y)) a (l.drop i) (r.drop i)) := by
  intro n
  induction n with
  | zero =>
    intro k i a hd hle hk
    obtain ⟨m, rfl⟩ : ∃ m, k = m + 1 := ⟨k - 1, by omega⟩
    obtain rfl : i = l.length := by omega
    simp only [spec_gvTwo.l0]
    rw [if_neg (by omega), List.drop_length]
    rfl
  | succ n ih =>
    intro k i a hd hle hk
    obtain ⟨m, rfl⟩ : ∃ m, k = m + 1 := ⟨k - 1, by omega⟩
    have hlt : i < l.length := by omega
    simp only [spec_gvTwo.l0]
    rw [if_pos (by omega), if_pos (by omega), if_pos (by omega), if_pos (by omega), rd_at l i hlt, rd_at r i (by omega), wrap_succ hlt (by omega), ih m (i + 1) _ (by omega) (by omega) (by omega), List.drop_eq_getElem_cons hlt, List.drop_eq_getElem_cons (by omega : i < r.length)]
    rfl
theorem gvTwo_ev (l r : List Int) (hl : l.length ≤ 1048576) (he : r.length = l.length) : ∃ K, ∀ k, K ≤ k → spec_gvTwo.f k l r = some (zw (fun x y => wrap64 (x * y)) 0 l r) := by
  refine ⟨l.length + 1, fun k hk => ?_⟩
  unfold spec_gvTwo.f
  have h := gvTwo_l l r hl he l.length k 0 0 (by omega) (by omega) (by omega)
  simpa using h
theorem product1_eq (a b : Int) : impl_Gloves_product_1.f a b = some (wrap64 (a * b)) := rfl
theorem bothProduct_l (l r : List Int) (hl : l.length ≤ 1048576) (he : r.length = l.length) : ∀ (n k i : Nat) (a : Int), l.length - i = n → i ≤ l.length → n < k →
    impl_Gloves_both_of_impl_Gloves_product_1.l0 k a l l.length i l r = some (zw (fun x y => wrap64 (x * y)) a (l.drop i) (r.drop i)) := by
  intro n
  induction n with
  | zero =>
    intro k i a hd hle hk
    obtain ⟨m, rfl⟩ : ∃ m, k = m + 1 := ⟨k - 1, by omega⟩
    obtain rfl : i = l.length := by omega
    simp only [impl_Gloves_both_of_impl_Gloves_product_1.l0]
    rw [if_neg (by omega), List.drop_length]
    rfl
  | succ n ih =>
    intro k i a hd hle hk
    obtain ⟨m, rfl⟩ : ∃ m, k = m + 1 := ⟨k - 1, by omega⟩
    have hlt : i < l.length := by omega
    simp only [impl_Gloves_both_of_impl_Gloves_product_1.l0]
    rw [if_pos (by omega), if_pos (by omega), if_pos (by omega), if_pos (by omega), rd_at l i hlt, rd_at r i (by omega), product1_eq, Option.bind_some, wrap_succ hlt (by omega), ih m (i + 1) _ (by omega) (by omega) (by omega), List.drop_eq_getElem_cons hlt, List.drop_eq_getElem_cons (by omega : i < r.length)]
    rfl
theorem bothProduct_ev (l r : List Int) (hl : l.length ≤ 1048576) (he : r.length = l.length) : ∃ K, ∀ k, K ≤ k → impl_Gloves_both_of_impl_Gloves_product_1.f k l r = some (zw (fun x y => wrap64 (x * y)) 0 l r) := by
  refine ⟨l.length + 1, fun k hk => ?_⟩
  unfold impl_Gloves_both_of_impl_Gloves_product_1.f
  have h := bothProduct_l l r hl he l.length k 0 0 (by omega) (by omega) (by omega)
  simpa using h
theorem product_ev (l r : List Int) (hl : l.length ≤ 1048576) (he : r.length = l.length) : ∃ K, ∀ k, K ≤ k → impl_Gloves_product.f k l r = some (zw (fun x y => wrap64 (x * y)) 0 l r) := by
  obtain ⟨K, h⟩ := bothProduct_ev l r hl he
  refine ⟨K, fun k hk => ?_⟩
  unfold impl_Gloves_product.f
  rw [h k hk]; rfl
theorem zw_two : ∀ (l r : List Int) (a : Int), 0 ≤ a → l.length = r.length → (∀ x ∈ l, 0 ≤ x ∧ x ≤ 20) → (∀ x ∈ r, 0 ≤ x ∧ x ≤ 20) → a + 400 * l.length ≤ 1000000 → 0 ≤ zw (fun x y => wrap64 (x * y)) a l r ∧ zw (fun x y => wrap64 (x * y)) a l r ≤ a + 400 * l.length := by
  intro l
  induction l with
  | nil => intro r a h0 he _ _ _; cases r with | nil => simp [zw]; exact h0 | cons y r => simp at he
  | cons x l ih =>
    intro r a h0 he h1 h2 h3
    cases r with
    | nil => simp at he
    | cons y r =>
      have hx := h1 x (by simp)
      have hy := h2 y (by simp)
      have hp : 0 ≤ x * y ∧ x * y ≤ 20 * 20 := ⟨Int.mul_nonneg hx.1 hy.1, Int.mul_le_mul hx.2 hy.2 hy.1 (by omega)⟩
      simp only [List.length_cons] at h3 he ⊢
      simp only [zw]
      rw [wrap_small (x := x * y) (by omega) (by omega), wrap_small (by omega) (by omega)]
      have := ih r (a + x * y) (by omega) (by omega) (fun z hz => h1 z (by simp [hz])) (fun z hz => h2 z (by simp [hz])) (by omega)
      omega

/-! ### lowest terms: the reference's and the program's way -/
theorem gcd_l (n d : Int) : ∀ (m : Nat) (a b : Int), 0 ≤ a → 0 ≤ b → b ≤ m → 0 < a + b → ∃ g, 0 < g ∧ g ≤ a + b ∧ ∀ k, m < k →
    impl_gcd.l0 k a b = some g ∧ spec_gvLow.l0 k n d a b = some (wrap64 (Int.tdiv n g), wrap64 (Int.tdiv d g)) := by
  intro m
  induction m with
  | zero =>
    intro a b h0 h1 h2 h3
    refine ⟨a, by omega, by omega, fun k hk => ?_⟩
    obtain ⟨j, rfl⟩ : ∃ j, k = j + 1 := ⟨k - 1, by omega⟩
    obtain rfl : b = 0 := by omega
    simp only [impl_gcd.l0, spec_gvLow.l0]
    rw [if_pos trivial, if_neg (by omega), if_neg (by omega)]
    exact ⟨rfl, rfl⟩
  | succ m ih =>
    intro a b h0 h1 h2 h3
    by_cases hb : b = 0
    · refine ⟨a, by omega, by omega, fun k hk => ?_⟩
      obtain ⟨j, rfl⟩ : ∃ j, k = j + 1 := ⟨k - 1, by omega⟩
      subst hb
      simp only [impl_gcd.l0, spec_gvLow.l0]
      rw [if_pos trivial, if_neg (by omega), if_neg (by omega)]
      exact ⟨rfl, rfl⟩
    · have e : Int.tmod a b = a % b := Int.tmod_eq_emod_of_nonneg h0
      have e1 := Int.emod_nonneg a hb
      have e2 := Int.emod_lt_of_pos a (show 0 < b by omega)
      have e3 : a % b ≤ a := by
        have := Int.emod_add_mul_ediv a b
        have q : 0 ≤ b * (a / b) := Int.mul_nonneg (by omega) (Int.ediv_nonneg h0 (by omega))
        omega
      obtain ⟨g, g0, g1, hg⟩ := ih b (a % b) (by omega) e1 (by omega) (by omega)
      refine ⟨g, g0, by omega, fun k hk => ?_⟩
      obtain ⟨j, rfl⟩ : ∃ j, k = j + 1 := ⟨k - 1, by omega⟩
      obtain ⟨x1, x2⟩ := hg j (by omega)
      simp only [impl_gcd.l0, spec_gvLow.l0]
      rw [if_neg hb, if_pos (by omega), if_neg hb, e]
      exact ⟨x1, x2⟩
theorem low_ev (n d : Int) (h0 : 0 ≤ n) (h1 : 0 < d) (h2 : d ≤ 9223372036854775807) : ∃ p K, ∀ k, K ≤ k → spec_gvLow.f k n d = some p ∧ impl_fraction.f k n d = some (p.1, p.2, true) := by
  obtain ⟨g, g0, g1, hg⟩ := gcd_l n d d.toNat n d h0 (by omega) (by omega) (by omega)
  refine ⟨(wrap64 (Int.tdiv n g), wrap64 (Int.tdiv d g)), d.toNat + 1, fun k hk => ?_⟩
  obtain ⟨x1, x2⟩ := hg k (by omega)
  unfold spec_gvLow.f impl_fraction.f impl_gcd.f
  rw [x1, x2, Option.bind_some, if_neg (by omega)]
  exact ⟨rfl, rfl⟩

end Go.Proofs.Ytcnfhfjhpicpkaa.Pure
