/- Plain lemmas over the printed functions of this seat. -/
import Derived.Test.YtjldifjfgeifcaaY0
import Derived.Test.YtjldifjfgeifcaaPx4
set_option linter.unusedVariables false
set_option linter.unusedSimpArgs false
namespace Go.Proofs.Ytjldifjfgeifcaa.Pure
open Go.RowKit Go.Proofs.Ytjldifjfgeifcaa.P Go.Proofs.YtjldifjfgeifcaaW.PrintWords Go.Proofs.YtjldifjfgeifcaaW.PrintLast Go.Proofs.YtjldifjfgeifcaaW.PrintMore

/-! ### pairs -/
/-- The sum of halves as Go reckons it. -/
def wpairs (a : Int) (l : List Int) : Int := l.foldl (fun a x => wrap64 (a + wrap64 (Int.tdiv x 2))) a
theorem wpairs_cons (a x : Int) (l : List Int) : wpairs a (x :: l) = wpairs (wrap64 (a + wrap64 (Int.tdiv x 2))) l := rfl
/-- How many pairs. -/
def prs (l : List Int) : Int := (l.map (· / 2)).sum
theorem wpairs_small (l : List Int) : ∀ (a : Int), 0 ≤ a → (∀ x ∈ l, 0 ≤ x ∧ x ≤ 1000000) → a + 1000000 * l.length ≤ 9223372036854775807 → wpairs a l = a + prs l := by
  induction l with
  | nil => intro a _ _ _; simp [wpairs, prs]
  | cons x l ih =>
    intro a h0 h h1
    have hx := h x (by simp)
    simp only [List.length_cons] at h1
    have e : Int.tdiv x 2 = x / 2 := Int.tdiv_eq_ediv_of_nonneg hx.1
    have e2 : wrap64 (x / 2) = x / 2 := wrap_small (by omega) (by omega)
    rw [wpairs_cons, e, e2, wrap_small (by omega) (by omega), ih _ (by omega) (fun y hy => h y (by simp [hy])) (by omega)]
    simp only [prs, List.map_cons, List.sum_cons]
    omega
theorem soPairs_l (l : List Int) (hl : l.length ≤ 17592186044416) : ∀ (d k i : Nat) (a : Int), l.length - i = d → i ≤ l.length → d < k →
    spec_soPairs.l0 k a l l.length i = some (wpairs a (l.drop i)) := by
  intro d
  induction d with
  | zero =>
    intro k i a hd hi hk
    obtain ⟨m, rfl⟩ : ∃ m, k = m + 1 := ⟨k - 1, by omega⟩
    obtain rfl : i = l.length := by omega
    simp only [spec_soPairs.l0]
    rw [if_neg (by omega), List.drop_length]
    rfl
  | succ d ih =>
    intro k i a hd hi hk
    obtain ⟨m, rfl⟩ : ∃ m, k = m + 1 := ⟨k - 1, by omega⟩
    have hlt : i < l.length := by omega
    simp only [spec_soPairs.l0]
    rw [if_pos (by omega), if_pos (by omega), if_pos (by omega), wrap_succ hlt (by omega), ih m (i + 1) _ (by omega) (by omega) (by omega), List.drop_eq_getElem_cons hlt, rd_at l i hlt, wpairs_cons]
theorem soPairs_ev (l : List Int) (hl : l.length ≤ 17592186044416) : ∃ K, ∀ k, K ≤ k → spec_soPairs.f k l = some (wpairs 0 l) := by
  refine ⟨l.length + 1, fun k hk => ?_⟩
  unfold spec_soPairs.f
  have h := soPairs_l l hl l.length k 0 0 (by omega) (by omega) (by omega)
  simpa using h
theorem pairsOf_l (l : List Int) (hl : l.length ≤ 17592186044416) : ∀ (d k i : Nat) (a : Int), l.length - i = d → i ≤ l.length → d < k →
    impl_pairsOf.l0 k a l l.length i = some (wpairs a (l.drop i)) := by
  intro d
  induction d with
  | zero =>
    intro k i a hd hi hk
    obtain ⟨m, rfl⟩ : ∃ m, k = m + 1 := ⟨k - 1, by omega⟩
    obtain rfl : i = l.length := by omega
    simp only [impl_pairsOf.l0]
    rw [if_neg (by omega), List.drop_length]
    rfl
  | succ d ih =>
    intro k i a hd hi hk
    obtain ⟨m, rfl⟩ : ∃ m, k = m + 1 := ⟨k - 1, by omega⟩
    have hlt : i < l.length := by omega
    simp only [impl_pairsOf.l0]
    rw [if_pos (by omega), if_pos (by omega), if_pos (by omega), wrap_succ hlt (by omega), ih m (i + 1) _ (by omega) (by omega) (by omega), List.drop_eq_getElem_cons hlt, rd_at l i hlt, wpairs_cons]
theorem pairsOf_ev (l : List Int) (hl : l.length ≤ 17592186044416) : ∃ K, ∀ k, K ≤ k → impl_pairsOf.f k l = some (wpairs 0 l) := by
  refine ⟨l.length + 1, fun k hk => ?_⟩
  unfold impl_pairsOf.f
  have h := pairsOf_l l hl l.length k 0 0 (by omega) (by omega) (by omega)
  simpa using h

end Go.Proofs.Ytjldifjfgeifcaa.Pure
