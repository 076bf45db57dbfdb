/- Plain lemmas over the printed functions of this seat. -/
import Derived.Test.YtjldifjfgeifcaaPx1
set_option linter.unusedVariables false
set_option linter.unusedSimpArgs false
namespace Go.Proofs.Ytjldifjfgeifcaa.Pure
open Go.RowKit Go.Proofs.Ytjldifjfgeifcaa.P Go.Proofs.YtjldifjfgeifcaaW.PrintWords Go.Proofs.YtjldifjfgeifcaaW.PrintLast Go.Proofs.YtjldifjfgeifcaaW.PrintMore

/-! Plain lemmas: lists of small numbers, and the loops that all laws run. -/
theorem rd_at (l : List Int) (i : Nat) (h : i < l.length) : rd l (i : Int) = l[i] := by
  simp [rd, List.getD_eq_getElem?_getD, h]
theorem wrap_small {x : Int} (h0 : -9223372036854775808 ≤ x) (h1 : x ≤ 9223372036854775807) : wrap64 x = x := by
  unfold wrap64; omega
theorem wrap_succ {i n : Nat} (h : i < n) (hn : n ≤ 9223372036854775807) : wrap64 ((i : Int) + 1) = ((i + 1 : Nat) : Int) := by
  unfold wrap64; omega

/-- The sum as Go reckons it. -/
def wsum (a : Int) (l : List Int) : Int := l.foldl (fun a x => wrap64 (a + x)) a
theorem wsum_cons (a x : Int) (l : List Int) : wsum a (x :: l) = wsum (wrap64 (a + x)) l := rfl
theorem wsum_small (l : List Int) : ∀ (a : Int), 0 ≤ a → (∀ x ∈ l, 0 ≤ x ∧ x ≤ 1000000) → a + 1000000 * l.length ≤ 9223372036854775807 → wsum a l = a + l.sum := by
  induction l with
  | nil => intro a _ _ _; simp [wsum]
  | cons x l ih =>
    intro a h0 h h1
    have hx := h x (by simp)
    simp only [List.length_cons] at h1
    rw [wsum_cons, wrap_small (by omega) (by omega), ih _ (by omega) (fun y hy => h y (by simp [hy])) (by omega), List.sum_cons]
    omega
theorem sum_bounds (l : List Int) (c : Int) (h : ∀ x ∈ l, 0 ≤ x ∧ x ≤ c) : 0 ≤ l.sum ∧ l.sum ≤ c * l.length := by
  induction l with
  | nil => simp
  | cons x l ih =>
    have hx := h x (by simp)
    have := ih (fun y hy => h y (by simp [hy]))
    rw [List.sum_cons, List.length_cons]
    have e : c * ((l.length + 1 : Nat) : Int) = c * l.length + c := by rw [Int.natCast_add, Int.mul_add]; simp
    omega
/-- Numbers of a kind: all within bounds. -/
def allIn (lo hi : Int) (l : List Int) : Bool := l.all fun x => decide (lo ≤ x) && decide (x ≤ hi)
theorem allIn_iff {lo hi : Int} {l : List Int} : allIn lo hi l = true ↔ ∀ x ∈ l, lo ≤ x ∧ x ≤ hi := by
  simp [allIn]
/-- Are these socks? -/
def goodB (l : List Int) : Bool := decide (1 ≤ l.length) && decide (l.length ≤ 8) && allIn 0 20 l && decide (0 < l.sum)
theorem goodB_iff {l : List Int} : goodB l = true ↔ 1 ≤ l.length ∧ l.length ≤ 8 ∧ (∀ x ∈ l, 0 ≤ x ∧ x ≤ 20) ∧ 0 < l.sum := by
  simp [goodB, allIn_iff, and_assoc]

/-! ### toIntS, eqIntS -/
theorem toIntS_l (l : List Int) (hl : l.length ≤ 1048576) : ∀ (d k i : Nat), l.length - i = d → i ≤ l.length → d < k →
    laws_toIntS.l0 k l (l.take i ++ List.replicate (l.length - i) 0) i = some l := by
  intro d
  induction d with
  | zero =>
    intro k i hd hi hk
    obtain ⟨m, rfl⟩ : ∃ m, k = m + 1 := ⟨k - 1, by omega⟩
    obtain rfl : i = l.length := by omega
    simp only [laws_toIntS.l0]
    rw [if_neg (by omega)]
    simp
  | succ d ih =>
    intro k i hd hi hk
    obtain ⟨m, rfl⟩ : ∃ m, k = m + 1 := ⟨k - 1, by omega⟩
    have hlt : i < l.length := by omega
    simp only [laws_toIntS.l0]
    rw [if_pos (by omega), if_pos (by omega), if_pos (by simp; omega), wrap_succ hlt (by omega)]
    have e : (l.take i ++ List.replicate (l.length - i) 0).set ((i : Int)).toNat (rd l i) = l.take (i + 1) ++ List.replicate (l.length - (i + 1)) 0 := by
      rw [rd_at l i hlt, Int.toNat_natCast]
      obtain ⟨m, hm⟩ : ∃ m, l.length - i = m + 1 := ⟨l.length - i - 1, by omega⟩
      rw [hm, List.replicate_succ, List.set_append_right _ _ (by simp; omega), List.take_succ_eq_append_getElem hlt]
      simp only [List.length_take, Nat.min_eq_left (Nat.le_of_lt hlt), Nat.sub_self, List.set_cons_zero, List.append_assoc, List.singleton_append]
      rw [show l.length - (i + 1) = m by omega]
    rw [e]
    exact ih m (i + 1) (by omega) (by omega) (by omega)
theorem toIntS_ev (l : List Int) (hl : l.length ≤ 1048576) : ∃ K, ∀ k, K ≤ k → laws_toIntS.f k l = some l := by
  refine ⟨l.length + 1, fun k hk => ?_⟩
  unfold laws_toIntS.f
  rw [if_pos (by omega), if_pos (by omega)]
  have h := toIntS_l l hl l.length k 0 (by omega) (by omega) (by omega)
  simpa using h
theorem eqIntS_l (l : List Int) (hl : l.length ≤ 1048576) : ∀ (d k i : Nat), l.length - i = d → i ≤ l.length → d < k →
    laws_eqIntS.l0 k l l i = some true := by
  intro d
  induction d with
  | zero =>
    intro k i hd hi hk
    obtain ⟨m, rfl⟩ : ∃ m, k = m + 1 := ⟨k - 1, by omega⟩
    simp only [laws_eqIntS.l0]
    rw [if_neg (by omega)]
  | succ d ih =>
    intro k i hd hi hk
    obtain ⟨m, rfl⟩ : ∃ m, k = m + 1 := ⟨k - 1, by omega⟩
    have hlt : i < l.length := by omega
    simp only [laws_eqIntS.l0]
    rw [if_pos (by omega), if_pos (by omega), if_pos (by omega), if_pos trivial, wrap_succ hlt (by omega)]
    exact ih m (i + 1) (by omega) (by omega) (by omega)
theorem eqIntS_ev (l : List Int) (hl : l.length ≤ 1048576) : ∃ K, ∀ k, K ≤ k → laws_eqIntS.f k l l = some true := by
  refine ⟨l.length + 1, fun k hk => ?_⟩
  unfold laws_eqIntS.f
  rw [if_pos rfl]
  exact eqIntS_l l hl l.length k 0 (by omega) (by omega) (by omega)


/-! ### sums -/
theorem soSum_l (l : List Int) (hl : l.length ≤ 17592186044416) : ∀ (d k i : Nat) (a : Int), l.length - i = d → i ≤ l.length → d < k →
    spec_soSum.l0 k a l l.length i = some (wsum a (l.drop i)) := by
  intro d
  induction d with
  | zero =>
    intro k i a hd hi hk
    obtain ⟨m, rfl⟩ : ∃ m, k = m + 1 := ⟨k - 1, by omega⟩
    obtain rfl : i = l.length := by omega
    simp only [spec_soSum.l0]
    rw [if_neg (by omega), List.drop_length]
    rfl
  | succ d ih =>
    intro k i a hd hi hk
    obtain ⟨m, rfl⟩ : ∃ m, k = m + 1 := ⟨k - 1, by omega⟩
    have hlt : i < l.length := by omega
    simp only [spec_soSum.l0]
    rw [if_pos (by omega), if_pos (by omega), if_pos (by omega), wrap_succ hlt (by omega), ih m (i + 1) _ (by omega) (by omega) (by omega), List.drop_eq_getElem_cons hlt, rd_at l i hlt, wsum_cons]
theorem soSum_ev (l : List Int) (hl : l.length ≤ 17592186044416) : ∃ K, ∀ k, K ≤ k → spec_soSum.f k l = some (wsum 0 l) := by
  refine ⟨l.length + 1, fun k hk => ?_⟩
  unfold spec_soSum.f
  have h := soSum_l l hl l.length k 0 0 (by omega) (by omega) (by omega)
  simpa using h
theorem total_l (l : List Int) (hl : l.length ≤ 17592186044416) : ∀ (d k i : Nat) (a : Int), l.length - i = d → i ≤ l.length → d < k →
    impl_total.l0 k a l l.length i = some (wsum a (l.drop i)) := by
  intro d
  induction d with
  | zero =>
    intro k i a hd hi hk
    obtain ⟨m, rfl⟩ : ∃ m, k = m + 1 := ⟨k - 1, by omega⟩
    obtain rfl : i = l.length := by omega
    simp only [impl_total.l0]
    rw [if_neg (by omega), List.drop_length]
    rfl
  | succ d ih =>
    intro k i a hd hi hk
    obtain ⟨m, rfl⟩ : ∃ m, k = m + 1 := ⟨k - 1, by omega⟩
    have hlt : i < l.length := by omega
    simp only [impl_total.l0]
    rw [if_pos (by omega), if_pos (by omega), if_pos (by omega), wrap_succ hlt (by omega), ih m (i + 1) _ (by omega) (by omega) (by omega), List.drop_eq_getElem_cons hlt, rd_at l i hlt, wsum_cons]
theorem total_ev (l : List Int) (hl : l.length ≤ 17592186044416) : ∃ K, ∀ k, K ≤ k → impl_total.f k l = some (wsum 0 l) := by
  refine ⟨l.length + 1, fun k hk => ?_⟩
  unfold impl_total.f
  have h := total_l l hl l.length k 0 0 (by omega) (by omega) (by omega)
  simpa using h

/-! ### all within bounds -/
theorem l1In_eq (x lo hi : Int) : spec_l1In.f x lo hi = some (decide (lo ≤ x) && decide (x ≤ hi)) := by
  unfold spec_l1In.f
  by_cases h : lo ≤ x <;> simp [h]
theorem within_eq (x lo hi : Int) : impl_within.f x lo hi = some (decide (lo ≤ x) && decide (x ≤ hi)) := by
  unfold impl_within.f
  by_cases h : lo ≤ x <;> simp [h]
theorem l1All_l (l : List Int) (lo hi : Int) (hl : l.length ≤ 17592186044416) : ∀ (d k i : Nat), l.length - i = d → i ≤ l.length → d < k →
    spec_l1All.l0 k lo hi l l.length i = some (allIn lo hi (l.drop i)) := by
  intro d
  induction d with
  | zero =>
    intro k i hd hle hk
    obtain ⟨m, rfl⟩ : ∃ m, k = m + 1 := ⟨k - 1, by omega⟩
    obtain rfl : i = l.length := by omega
    simp only [spec_l1All.l0]
    rw [if_neg (by omega), List.drop_length]
    rfl
  | succ d ih =>
    intro k i hd hle hk
    obtain ⟨m, rfl⟩ : ∃ m, k = m + 1 := ⟨k - 1, by omega⟩
    have hlt : i < l.length := by omega
    simp only [spec_l1All.l0]
    rw [if_pos (by omega), if_pos (by omega), if_pos (by omega), l1In_eq, Option.bind_some, wrap_succ hlt (by omega), ih m (i + 1) (by omega) (by omega) (by omega), List.drop_eq_getElem_cons hlt, rd_at l i hlt]
    simp only [allIn, List.all_cons]
    generalize (decide (lo ≤ l[i]) && decide (l[i] ≤ hi)) = b
    cases b <;> simp
theorem l1All_ev (l : List Int) (lo hi : Int) (hl : l.length ≤ 17592186044416) : ∃ K, ∀ k, K ≤ k → spec_l1All.f k l lo hi = some (allIn lo hi l) := by
  refine ⟨l.length + 1, fun k hk => ?_⟩
  unfold spec_l1All.f
  have h := l1All_l l lo hi hl l.length k 0 (by omega) (by omega) (by omega)
  simpa using h
theorem areWithin_eq (l : List Int) (lo hi : Int) : impl_areWithin.f l lo hi = some (allIn lo hi l) := by
  unfold impl_areWithin.f xOut allIn xInB
  simp [List.all_eq_not_any_not]

/-! ### socks -/
theorem good_sum (l : List Int) (h1 : l.length ≤ 8) (h : allIn 0 20 l = true) : wsum 0 l = l.sum := by
  have h' := allIn_iff.1 h
  rw [wsum_small l 0 (by omega) (fun x hx => ⟨(h' x hx).1, by have := (h' x hx).2; omega⟩) (by omega)]
  omega
theorem soGood_ev (l : List Int) (hl : l.length ≤ 17592186044416) : ∃ K, ∀ k, K ≤ k → spec_soGood.f k l = some (goodB l) := by
  obtain ⟨K1, h1⟩ := l1All_ev l 0 20 hl
  obtain ⟨K2, h2⟩ := soSum_ev l hl
  refine ⟨K1 + K2, fun k hk => ?_⟩
  simp (disch := omega) only [spec_soGood.f, l1In_eq, h1, h2, Option.bind_some, goodB]
  by_cases hn : 1 ≤ l.length ∧ l.length ≤ 8
  · have e : (decide ((1 : Int) ≤ (l.length : Int)) && decide ((l.length : Int) ≤ 8)) = true := by simp; omega
    rw [if_pos e]
    cases ha : allIn 0 20 l with
    | true =>
      rw [if_pos rfl, good_sum l hn.2 ha]
      simp [hn.1, hn.2]
    | false => simp
  · have e : ¬ (decide ((1 : Int) ≤ (l.length : Int)) && decide ((l.length : Int) ≤ 8)) = true := by simp; omega
    rw [if_neg e]
    have e2 : (decide (1 ≤ l.length) && decide (l.length ≤ 8)) = false := by simp; omega
    rw [e2]; rfl
theorem AreSocks_ev (l : List Int) (hl : l.length ≤ 17592186044416) : ∃ K, ∀ k, K ≤ k → impl_AreSocks.f k l = some (goodB l) := by
  obtain ⟨K2, h2⟩ := total_ev l hl
  refine ⟨K2, fun k hk => ?_⟩
  simp (disch := omega) only [impl_AreSocks.f, within_eq, areWithin_eq, h2, Option.bind_some, goodB]
  by_cases hn : 1 ≤ l.length ∧ l.length ≤ 8
  · have e : (decide ((1 : Int) ≤ (l.length : Int)) && decide ((l.length : Int) ≤ 8)) = true := by simp; omega
    rw [if_pos e]
    cases ha : allIn 0 20 l with
    | true =>
      rw [if_pos rfl, good_sum l hn.2 ha]
      simp [hn.1, hn.2]
    | false => simp
  · have e : ¬ (decide ((1 : Int) ≤ (l.length : Int)) && decide ((l.length : Int) ≤ 8)) = true := by simp; omega
    rw [if_neg e]
    have e2 : (decide (1 ≤ l.length) && decide (l.length ≤ 8)) = false := by simp; omega
    rw [e2]; rfl

end Go.Proofs.Ytjldifjfgeifcaa.Pure
