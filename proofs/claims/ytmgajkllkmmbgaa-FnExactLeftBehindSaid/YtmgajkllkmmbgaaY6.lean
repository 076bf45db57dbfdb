/- Plain lemmas over the printed functions of this seat. -/
import Derived.Test.YtmgajkllkmmbgaaY0
import Derived.Test.YtmgajkllkmmbgaaY3
import Derived.Test.YtmgajkllkmmbgaaPx19
set_option linter.unusedVariables false
set_option linter.unusedSimpArgs false
namespace Go.Proofs.Ytmgajkllkmmbgaa.Pure
open Go.RowKit Go.Proofs.Ytmgajkllkmmbgaa.P Go.Proofs.YtmgajkllkmmbgaaW.PrintWords Go.Proofs.YtmgajkllkmmbgaaW.PrintLast Go.Proofs.YtmgajkllkmmbgaaW.PrintMore

/-! ### what is left behind -/
def subW (a b : List Int) : List Int := List.zipWith (fun x y => wrap64 (x - y)) a b
theorem subW_length (a b : List Int) (h : b.length = a.length) : (subW a b).length = a.length := by simp [subW]; omega
theorem subW_at (a b : List Int) (h : b.length = a.length) (i : Nat) (hi : i < a.length) : (subW a b)[i]'(by rw [subW_length a b h]; exact hi) = wrap64 (a[i] - b[i]) := by simp [subW]
theorem subW_sum (a : List Int) : ∀ (b : List Int), b.length = a.length → (∀ x ∈ a, 0 ≤ x ∧ x ≤ 20) → ((b.zip a).all fun p => decide (0 ≤ p.1) && decide (p.1 ≤ p.2)) = true →
    (∀ x ∈ subW a b, 0 ≤ x ∧ x ≤ 20) ∧ (∀ x ∈ b, 0 ≤ x ∧ x ≤ 20) ∧ (subW a b).sum = a.sum - b.sum := by
  induction a with
  | nil => intro b hb _ _; cases b with | nil => simp [subW] | cons y b => simp at hb
  | cons x a ih =>
    intro b hb hg hz
    cases b with
    | nil => simp at hb
    | cons y b =>
      have hx := hg x (by simp)
      simp only [List.zip_cons_cons, List.all_cons, Bool.and_eq_true, decide_eq_true_eq] at hz
      obtain ⟨⟨hy0, hy1⟩, hz⟩ := hz
      obtain ⟨i1, i2, i3⟩ := ih b (by simpa using hb) (fun z hz => hg z (by simp [hz])) hz
      have e : subW (x :: a) (y :: b) = (x - y) :: subW a b := by simp only [subW, List.zipWith_cons_cons]; rw [wrap_small (by omega) (by omega)]
      rw [e]
      refine ⟨fun z hz => ?_, fun z hz => ?_, ?_⟩
      · rcases List.mem_cons.1 hz with rfl | hz
        · omega
        · exact i1 z hz
      · rcases List.mem_cons.1 hz with rfl | hz
        · omega
        · exact i2 z hz
      · rw [List.sum_cons, List.sum_cons, List.sum_cons, i3]; omega
theorem LeftS_l (a b : List Int) (hl : a.length ≤ 1048576) (he : b.length = a.length) (K : Nat) (hK : ∀ k, K ≤ k → spec_soSum.f k (subW a b) = some (wsum 0 (subW a b))) : ∀ (n k i : Nat), a.length - i = n → i ≤ a.length → n + K < k →
    spec_LeftBehind.l0 k b ((subW a b).take i) a a.length i = some (if wsum 0 (subW a b) = 0 then ([], false) else (subW a b, true)) := by
  intro n
  induction n with
  | zero =>
    intro k i hd hle hk
    obtain ⟨m, rfl⟩ : ∃ m, k = m + 1 := ⟨k - 1, by omega⟩
    obtain rfl : i = a.length := by omega
    simp only [spec_LeftBehind.l0]
    rw [if_neg (by omega), List.take_of_length_le (by rw [subW_length a b he]; exact Nat.le_refl _), hK m (by omega), Option.bind_some]
    split <;> rfl
  | succ n ih =>
    intro k i hd hle hk
    obtain ⟨m, rfl⟩ : ∃ m, k = m + 1 := ⟨k - 1, by omega⟩
    have hlt : i < a.length := by omega
    have e : (subW a b).take i ++ [wrap64 (rd a i - rd b i)] = (subW a b).take (i + 1) := by
      rw [List.take_succ_eq_append_getElem (by rw [subW_length a b he]; exact hlt), rd_at a i hlt, rd_at b i (by omega), subW_at a b he i hlt]
    simp only [spec_LeftBehind.l0]
    rw [if_pos (by omega), if_pos (by omega), if_pos (by omega), if_pos (by omega), if_pos (by simp; omega), e, wrap_succ hlt (by omega)]
    exact ih m (i + 1) (by omega) (by omega) (by omega)
theorem less_l (a b : List Int) (hl : a.length ≤ 1048576) (he : b.length = a.length) : ∀ (n k i : Nat), b.length - i = n → i ≤ b.length → n < k →
    impl_less.l0 k ((subW a b).take i ++ a.drop i) b b.length i = some (subW a b) := by
  have hs := subW_length a b he
  intro n
  induction n with
  | zero =>
    intro k i hd hle hk
    obtain ⟨m, rfl⟩ : ∃ m, k = m + 1 := ⟨k - 1, by omega⟩
    obtain rfl : i = b.length := by omega
    simp only [impl_less.l0]
    rw [if_neg (by omega), List.take_of_length_le (by omega), List.drop_eq_nil_of_le (by omega), List.append_nil]
  | succ n ih =>
    intro k i hd hle hk
    obtain ⟨m, rfl⟩ : ∃ m, k = m + 1 := ⟨k - 1, by omega⟩
    have hlt : i < b.length := by omega
    have hlen : ((subW a b).take i ++ a.drop i).length = a.length := by simp; omega
    have ht : ((subW a b).take i).length = i := by simp; omega
    have er : rd ((subW a b).take i ++ a.drop i) (i : Int) = a[i] := by
      rw [rd_at _ i (by omega), List.getElem_append_right (by omega)]
      simp [ht]
    have e : ((subW a b).take i ++ a.drop i).set ((i : Int)).toNat (wrap64 (a[i] - b[i])) = (subW a b).take (i + 1) ++ a.drop (i + 1) := by
      rw [Int.toNat_natCast, List.set_append_right _ _ (by omega), ht, Nat.sub_self, List.drop_eq_getElem_cons (by omega : i < a.length), List.set_cons_zero, List.take_succ_eq_append_getElem (by omega : i < (subW a b).length), subW_at a b he i (by omega), List.append_assoc]
      rfl
    simp only [impl_less.l0]
    rw [if_pos (by omega), if_pos (by omega), if_pos (by omega), if_pos (by rw [hlen]; omega), er, rd_at b i hlt, e, wrap_succ hlt (by omega)]
    exact ih m (i + 1) (by omega) (by omega) (by omega)
theorem LeftBehind_ev (a b : List Int) (hla : a.length ≤ 1048576) (hlb : b.length ≤ 1048576) : ∃ r K, r.1.length ≤ 1048576 ∧ ∀ k, K ≤ k → spec_LeftBehind.f k a b = some r ∧ impl_LeftBehind.f k a b = some r := by
  obtain ⟨K1, h1⟩ := soBoth_ev a b hla hlb
  obtain ⟨K2, h2⟩ := isDrawB_ev a b hla hlb
  by_cases hc : (goodB a && isB a b) = true
  · have hc' := hc
    simp only [Bool.and_eq_true] at hc'
    obtain ⟨g1, g2, g3, g4⟩ := goodB_iff.1 hc'.1
    have hB := hc'.2
    simp only [isB, Bool.and_eq_true, decide_eq_true_eq] at hB
    obtain ⟨he, hz⟩ := hB
    have hsl := subW_length a b he
    obtain ⟨s1, s2, s3⟩ := subW_sum a b he g3 hz
    obtain ⟨K3, h3⟩ := soSum_ev (subW a b) (by omega)
    obtain ⟨K4, h4⟩ := total_ev a (by omega)
    obtain ⟨K5, h5⟩ := total_ev b (by omega)
    have small : ∀ l : List Int, (∀ x ∈ l, 0 ≤ x ∧ x ≤ 20) → l.length ≤ 8 → wsum 0 l = l.sum := fun l hl hn => good_sum l hn (allIn_iff.2 hl)
    have t1 := small a g3 g2
    have t2 := small b s2 (by omega)
    have t3 := small (subW a b) s1 (by omega)
    refine ⟨if a.sum = b.sum then ([], false) else (subW a b, true), K1 + K2 + K3 + K4 + K5 + a.length + 20, ?_, fun k hk => ?_⟩
    · split
      · simp
      · show (subW a b).length ≤ _; omega
    · have hs := LeftS_l a b hla he K3 h3 a.length k 0 (by omega) (by omega) (by omega)
      have hi := less_l a b hla he b.length k 0 (by omega) (by omega) (by omega)
      simp only [List.take_zero, Int.natCast_zero, List.drop_zero, List.nil_append] at hs hi
      have hcl : slices_Clone_int_int.f a = some a := by unfold slices_Clone_int_int.f; rw [if_pos (by omega)]
      simp (disch := omega) only [spec_LeftBehind.f, impl_LeftBehind.f, impl_less.f, h1, h2, h4, h5, hs, hi, hc, hcl, Option.bind_some, if_true, t1, t2, t3, s3]
      by_cases hq : a.sum = b.sum
      · rw [if_pos hq, if_pos (by omega), if_pos hq]; exact ⟨rfl, rfl⟩
      · rw [if_neg hq, if_neg (by omega), if_neg hq]; exact ⟨rfl, rfl⟩
  · have hc' : (goodB a && isB a b) = false := by simpa using hc
    refine ⟨([], false), K1 + K2, by simp, fun k hk => ?_⟩
    simp (disch := omega) only [spec_LeftBehind.f, impl_LeftBehind.f, h1, h2, hc', Option.bind_some, Bool.false_eq_true, if_false, and_self]

end Go.Proofs.Ytmgajkllkmmbgaa.Pure
