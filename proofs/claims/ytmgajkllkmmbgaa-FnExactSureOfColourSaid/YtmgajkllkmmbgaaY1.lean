/- Plain lemmas over the printed functions of this seat. -/
import Derived.Test.YtmgajkllkmmbgaaY0
import Derived.Test.YtmgajkllkmmbgaaPx3
import Derived.Test.YtmgajkllkmmbgaaPx4
import Derived.Test.YtmgajkllkmmbgaaPx5
import Derived.Test.YtmgajkllkmmbgaaPx7
import Derived.Test.YtmgajkllkmmbgaaPx10
import Derived.Test.YtmgajkllkmmbgaaPx11
import Derived.Test.YtmgajkllkmmbgaaPx13
import Derived.Test.YtmgajkllkmmbgaaPx14
set_option linter.unusedVariables false
set_option linter.unusedSimpArgs false
namespace Go.Proofs.Ytmgajkllkmmbgaa.Pure
open Go.RowKit Go.Proofs.Ytmgajkllkmmbgaa.P Go.Proofs.YtmgajkllkmmbgaaW.PrintWords Go.Proofs.YtmgajkllkmmbgaaW.PrintLast Go.Proofs.YtmgajkllkmmbgaaW.PrintMore

theorem AreSocksB_ev (l : List Int) (hl : l.length ≤ 1048576) : ∃ r K, ∀ k, K ≤ k → spec_AreSocks.f k l = some r ∧ impl_AreSocks.f k l = some r := by
  obtain ⟨K1, h1⟩ := soGood_ev l (by omega)
  obtain ⟨K2, h2⟩ := AreSocks_ev l (by omega)
  refine ⟨goodB l, K1 + K2, fun k hk => ?_⟩
  simp (disch := omega) only [spec_AreSocks.f, h1, h2, Option.bind_some, and_self]

/-! ### the functions of the first laws: the reference and the program give the same -/
theorem CountSocks_ev (l : List Int) (hl : l.length ≤ 1048576) : ∃ r K, ∀ k, K ≤ k → spec_CountSocks.f k l = some r ∧ impl_CountSocks.f k l = some r := by
  obtain ⟨K1, h1⟩ := soGood_ev l (by omega)
  obtain ⟨K2, h2⟩ := AreSocks_ev l (by omega)
  obtain ⟨K3, h3⟩ := soSum_ev l (by omega)
  obtain ⟨K4, h4⟩ := total_ev l (by omega)
  refine ⟨if goodB l = true then (wsum 0 l, true) else (0, false), K1 + K2 + K3 + K4, fun k hk => ?_⟩
  simp (disch := omega) only [spec_CountSocks.f, impl_CountSocks.f, h1, h2, h3, h4, Option.bind_some]
  cases goodB l <;> simp

theorem SureOfColour_ev (l : List Int) (a b : Int) (hl : l.length ≤ 1048576) : ∃ r K, ∀ k, K ≤ k → spec_SureOfColour.f k l a b = some r ∧ impl_SureOfColour.f k l a b = some r := by
  obtain ⟨K1, h1⟩ := soGood_ev l (by omega)
  obtain ⟨K2, h2⟩ := AreSocks_ev l (by omega)
  obtain ⟨K3, h3⟩ := soSum_ev l (by omega)
  obtain ⟨K4, h4⟩ := total_ev l (by omega)
  have hw : wrap64 ((l.length : Int) - 1) = (l.length : Int) - 1 := wrap_small (by omega) (by omega)
  by_cases hc : goodB l = true ∧ 0 ≤ a ∧ a < (l.length : Int)
  · refine ⟨if (decide (1 ≤ b) && decide (b ≤ rd l a)) = true then (wrap64 (wrap64 (wsum 0 l - rd l a) + b), true) else (0, false), K1 + K2 + K3 + K4, fun k hk => ?_⟩
    have e : (decide (0 ≤ a) && decide (a ≤ (l.length : Int) - 1)) = true := by simp; omega
    simp (disch := omega) only [spec_SureOfColour.f, impl_SureOfColour.f, spec_soColour.f, impl_isColour.f, l1In_eq, within_eq, hw, h1, h2, h3, h4, Option.bind_some, hc.1, if_true, e, if_pos hc.2.1, if_pos hc.2.2]
    cases (decide (1 ≤ b) && decide (b ≤ rd l a)) <;> simp
  · refine ⟨(0, false), K1 + K2 + K3 + K4, fun k hk => ?_⟩
    simp (disch := omega) only [spec_SureOfColour.f, impl_SureOfColour.f, spec_soColour.f, impl_isColour.f, l1In_eq, within_eq, hw, h1, h2, h3, h4, Option.bind_some]
    cases hg : goodB l with
    | false => simp
    | true =>
      have e : (decide (0 ≤ a) && decide (a ≤ (l.length : Int) - 1)) = false := by
        simp
        intro h0
        have := hc
        simp [hg, h0] at this
        omega
      simp [e]

theorem SurePairOf_ev (l : List Int) (a : Int) (hl : l.length ≤ 1048576) : ∃ r K, ∀ k, K ≤ k → spec_SurePairOf.f k l a = some r ∧ impl_SurePairOf.f k l a = some r := by
  obtain ⟨r, K, h⟩ := SureOfColour_ev l a 2 hl
  refine ⟨r, K, fun k hk => ?_⟩
  simp only [spec_SurePairOf.f, impl_SurePairOf.f, (h k hk).1, (h k hk).2, Option.bind_some, and_self]

/-! ### pairs -/
/-- The sum of halves as Go reckons it. -/
def wpairs (a : Int) (l : List Int) : Int := l.foldl (fun a x => wrap64 (a + wrap64 (Int.tdiv x 2))) a
theorem wpairs_cons (a x : Int) (l : List Int) : wpairs a (x :: l) = wpairs (wrap64 (a + wrap64 (Int.tdiv x 2))) l := rfl
/-- How many pairs. -/
def prs (l : List Int) : Int := (l.map (· / 2)).sum
theorem wpairs_small (l : List Int) : ∀ (a : Int), 0 ≤ a → (∀ x ∈ l, 0 ≤ x ∧ x ≤ 1000000) → a + 1000000 * l.length ≤ 9223372036854775807 → wpairs a l = a + prs l := by
  induction l with
  | nil => intro a _ _ _; simp [wpairs, prs]
  | cons x l ih =>
    intro a h0 h h1
    have hx := h x (by simp)
    simp only [List.length_cons] at h1
    have e : Int.tdiv x 2 = x / 2 := Int.tdiv_eq_ediv_of_nonneg hx.1
    have e2 : wrap64 (x / 2) = x / 2 := wrap_small (by omega) (by omega)
    rw [wpairs_cons, e, e2, wrap_small (by omega) (by omega), ih _ (by omega) (fun y hy => h y (by simp [hy])) (by omega)]
    simp only [prs, List.map_cons, List.sum_cons]
    omega
theorem soPairs_l (l : List Int) (hl : l.length ≤ 17592186044416) : ∀ (d k i : Nat) (a : Int), l.length - i = d → i ≤ l.length → d < k →
    spec_soPairs.l0 k a l l.length i = some (wpairs a (l.drop i)) := by
  intro d
  induction d with
  | zero =>
    intro k i a hd hi hk
    obtain ⟨m, rfl⟩ : ∃ m, k = m + 1 := ⟨k - 1, by omega⟩
    obtain rfl : i = l.length := by omega
    simp only [spec_soPairs.l0]
    rw [if_neg (by omega), List.drop_length]
    rfl
  | succ d ih =>
    intro k i a hd hi hk
    obtain ⟨m, rfl⟩ : ∃ m, k = m + 1 := ⟨k - 1, by omega⟩
    have hlt : i < l.length := by omega
    simp only [spec_soPairs.l0]
    rw [if_pos (by omega), if_pos (by omega), if_pos (by omega), wrap_succ hlt (by omega), ih m (i + 1) _ (by omega) (by omega) (by omega), List.drop_eq_getElem_cons hlt, rd_at l i hlt, wpairs_cons]
theorem soPairs_ev (l : List Int) (hl : l.length ≤ 17592186044416) : ∃ K, ∀ k, K ≤ k → spec_soPairs.f k l = some (wpairs 0 l) := by
  refine ⟨l.length + 1, fun k hk => ?_⟩
  unfold spec_soPairs.f
  have h := soPairs_l l hl l.length k 0 0 (by omega) (by omega) (by omega)
  simpa using h
theorem pairsOf_l (l : List Int) (hl : l.length ≤ 17592186044416) : ∀ (d k i : Nat) (a : Int), l.length - i = d → i ≤ l.length → d < k →
    impl_pairsOf.l0 k a l l.length i = some (wpairs a (l.drop i)) := by
  intro d
  induction d with
  | zero =>
    intro k i a hd hi hk
    obtain ⟨m, rfl⟩ : ∃ m, k = m + 1 := ⟨k - 1, by omega⟩
    obtain rfl : i = l.length := by omega
    simp only [impl_pairsOf.l0]
    rw [if_neg (by omega), List.drop_length]
    rfl
  | succ d ih =>
    intro k i a hd hi hk
    obtain ⟨m, rfl⟩ : ∃ m, k = m + 1 := ⟨k - 1, by omega⟩
    have hlt : i < l.length := by omega
    simp only [impl_pairsOf.l0]
    rw [if_pos (by omega), if_pos (by omega), if_pos (by omega), wrap_succ hlt (by omega), ih m (i + 1) _ (by omega) (by omega) (by omega), List.drop_eq_getElem_cons hlt, rd_at l i hlt, wpairs_cons]
theorem pairsOf_ev (l : List Int) (hl : l.length ≤ 17592186044416) : ∃ K, ∀ k, K ≤ k → impl_pairsOf.f k l = some (wpairs 0 l) := by
  refine ⟨l.length + 1, fun k hk => ?_⟩
  unfold impl_pairsOf.f
  have h := pairsOf_l l hl l.length k 0 0 (by omega) (by omega) (by omega)
  simpa using h

theorem PairsIn_ev (l : List Int) (hl : l.length ≤ 1048576) : ∃ r K, ∀ k, K ≤ k → spec_PairsIn.f k l = some r ∧ impl_PairsIn.f k l = some r := by
  obtain ⟨K1, h1⟩ := soGood_ev l (by omega)
  obtain ⟨K2, h2⟩ := AreSocks_ev l (by omega)
  obtain ⟨K3, h3⟩ := soPairs_ev l (by omega)
  obtain ⟨K4, h4⟩ := pairsOf_ev l (by omega)
  refine ⟨if goodB l = true then (wpairs 0 l, true) else (0, false), K1 + K2 + K3 + K4, fun k hk => ?_⟩
  simp (disch := omega) only [spec_PairsIn.f, impl_PairsIn.f, h1, h2, h3, h4, Option.bind_some]
  cases goodB l <;> simp

end Go.Proofs.Ytmgajkllkmmbgaa.Pure
