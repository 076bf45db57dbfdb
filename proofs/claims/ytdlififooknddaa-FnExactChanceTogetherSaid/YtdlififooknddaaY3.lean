/- Plain lemmas over the printed functions of this seat. -/
import Derived.Test.YtdlififooknddaaY0
import Derived.Test.YtdlififooknddaaPx2
import Derived.Test.YtdlififooknddaaPx5
import Derived.Test.YtdlififooknddaaPx6
set_option linter.unusedVariables false
set_option linter.unusedSimpArgs false
namespace Go.Proofs.Ytdlififooknddaa.Pure
open Go.RowKit Go.Proofs.Ytdlififooknddaa.P Go.Proofs.YtdlififooknddaaW.PrintWords Go.Proofs.YtdlififooknddaaW.PrintLast Go.Proofs.YtdlififooknddaaW.PrintMore

/-! ### socks -/
theorem good_sum (l : List Int) (h1 : l.length ≤ 8) (h : allIn 0 20 l = true) : wsum 0 l = l.sum := by
  have h' := allIn_iff.1 h
  rw [wsum_small l 0 (by omega) (fun x hx => ⟨(h' x hx).1, by have := (h' x hx).2; omega⟩) (by omega)]
  omega
theorem soGood_ev (l : List Int) (hl : l.length ≤ 17592186044416) : ∃ K, ∀ k, K ≤ k → spec_soGood.f k l = some (goodB l) := by
  obtain ⟨K1, h1⟩ := l1All_ev l 0 20 hl
  obtain ⟨K2, h2⟩ := soSum_ev l hl
  refine ⟨K1 + K2, fun k hk => ?_⟩
  simp (disch := omega) only [spec_soGood.f, l1In_eq, h1, h2, Option.bind_some, goodB]
  by_cases hn : 1 ≤ l.length ∧ l.length ≤ 8
  · have e : (decide ((1 : Int) ≤ (l.length : Int)) && decide ((l.length : Int) ≤ 8)) = true := by simp; omega
    rw [if_pos e]
    cases ha : allIn 0 20 l with
    | true =>
      rw [if_pos rfl, good_sum l hn.2 ha]
      simp [hn.1, hn.2]
    | false => simp
  · have e : ¬ (decide ((1 : Int) ≤ (l.length : Int)) && decide ((l.length : Int) ≤ 8)) = true := by simp; omega
    rw [if_neg e]
    have e2 : (decide (1 ≤ l.length) && decide (l.length ≤ 8)) = false := by simp; omega
    rw [e2]; rfl
theorem AreSocks_ev (l : List Int) (hl : l.length ≤ 17592186044416) : ∃ K, ∀ k, K ≤ k → impl_AreSocks.f k l = some (goodB l) := by
  obtain ⟨K2, h2⟩ := total_ev l hl
  refine ⟨K2, fun k hk => ?_⟩
  simp (disch := omega) only [impl_AreSocks.f, within_eq, areWithin_eq, h2, Option.bind_some, goodB]
  by_cases hn : 1 ≤ l.length ∧ l.length ≤ 8
  · have e : (decide ((1 : Int) ≤ (l.length : Int)) && decide ((l.length : Int) ≤ 8)) = true := by simp; omega
    rw [if_pos e]
    cases ha : allIn 0 20 l with
    | true =>
      rw [if_pos rfl, good_sum l hn.2 ha]
      simp [hn.1, hn.2]
    | false => simp
  · have e : ¬ (decide ((1 : Int) ≤ (l.length : Int)) && decide ((l.length : Int) ≤ 8)) = true := by simp; omega
    rw [if_neg e]
    have e2 : (decide (1 ≤ l.length) && decide (l.length ≤ 8)) = false := by simp; omega
    rw [e2]; rfl

/-! ### few socks -/
def fewB (l : List Int) : Bool := goodB l && decide (wsum 0 l ≤ 40)
theorem fewB_iff {l : List Int} : fewB l = true ↔ goodB l = true ∧ wsum 0 l ≤ 40 := by simp [fewB]
theorem few_sum {l : List Int} (h : fewB l = true) : wsum 0 l = l.sum ∧ 0 < l.sum ∧ l.sum ≤ 40 ∧ 1 ≤ l.length ∧ l.length ≤ 8 ∧ (∀ x ∈ l, 0 ≤ x ∧ x ≤ 20) := by
  obtain ⟨hg, h40⟩ := fewB_iff.1 h
  obtain ⟨g1, g2, g3, g4⟩ := goodB_iff.1 hg
  have := good_sum l g2 (allIn_iff.2 g3)
  exact ⟨this, g4, by omega, g1, g2, g3⟩
theorem chGood_ev (l : List Int) (hl : l.length ≤ 1048576) : ∃ K, ∀ k, K ≤ k → spec_chGood.f k l = some (fewB l) := by
  obtain ⟨K1, h1⟩ := soGood_ev l (by omega)
  obtain ⟨K2, h2⟩ := soSum_ev l (by omega)
  refine ⟨K1 + K2, fun k hk => ?_⟩
  simp (disch := omega) only [spec_chGood.f, h1, h2, Option.bind_some, fewB]
  cases goodB l <;> simp
theorem areFew_ev (l : List Int) (hl : l.length ≤ 1048576) : ∃ K, ∀ k, K ≤ k → impl_areFew.f k l = some (fewB l) := by
  obtain ⟨K1, h1⟩ := AreSocks_ev l (by omega)
  obtain ⟨K2, h2⟩ := total_ev l (by omega)
  refine ⟨K1 + K2, fun k hk => ?_⟩
  simp (disch := omega) only [impl_areFew.f, h1, h2, Option.bind_some, fewB]
  cases goodB l <;> simp

def numB (l : List Int) (a : Int) : Bool := fewB l && (decide (0 ≤ a) && decide (a ≤ wsum 0 l))
theorem chAsked_ev (l : List Int) (a : Int) (hl : l.length ≤ 1048576) : ∃ K, ∀ k, K ≤ k → spec_chAsked.f k l a = some (numB l a) := by
  obtain ⟨K1, h1⟩ := chGood_ev l hl
  obtain ⟨K2, h2⟩ := soSum_ev l (by omega)
  refine ⟨K1 + K2, fun k hk => ?_⟩
  simp (disch := omega) only [spec_chAsked.f, h1, h2, l1In_eq, Option.bind_some, numB]
  cases fewB l <;> simp
theorem isNumber_ev (l : List Int) (a : Int) (hl : l.length ≤ 1048576) : ∃ K, ∀ k, K ≤ k → impl_isNumber.f k l a = some (numB l a) := by
  obtain ⟨K1, h1⟩ := areFew_ev l hl
  obtain ⟨K2, h2⟩ := total_ev l (by omega)
  refine ⟨K1 + K2, fun k hk => ?_⟩
  simp (disch := omega) only [impl_isNumber.f, h1, h2, within_eq, Option.bind_some, numB]
  cases fewB l <;> simp

/-! ### lowest terms: the reference's and the program's way -/
theorem gcd_l (n d : Int) : ∀ (m : Nat) (a b : Int), 0 ≤ a → 0 ≤ b → b ≤ m → 0 < a + b → ∃ g, 0 < g ∧ g ≤ a + b ∧ ∀ k, m < k →
    impl_gcd.l0 k a b = some g ∧ spec_chLow.l0 k n d a b = some (wrap64 (Int.tdiv n g), wrap64 (Int.tdiv d g)) := by
  intro m
  induction m with
  | zero =>
    intro a b h0 h1 h2 h3
    refine ⟨a, by omega, by omega, fun k hk => ?_⟩
    obtain ⟨j, rfl⟩ : ∃ j, k = j + 1 := ⟨k - 1, by omega⟩
    obtain rfl : b = 0 := by omega
    simp only [impl_gcd.l0, spec_chLow.l0]
    rw [if_pos trivial, if_neg (by omega), if_neg (by omega)]
    exact ⟨rfl, rfl⟩
  | succ m ih =>
    intro a b h0 h1 h2 h3
    by_cases hb : b = 0
    · refine ⟨a, by omega, by omega, fun k hk => ?_⟩
      obtain ⟨j, rfl⟩ : ∃ j, k = j + 1 := ⟨k - 1, by omega⟩
      subst hb
      simp only [impl_gcd.l0, spec_chLow.l0]
      rw [if_pos trivial, if_neg (by omega), if_neg (by omega)]
      exact ⟨rfl, rfl⟩
    · have e : Int.tmod a b = a % b := Int.tmod_eq_emod_of_nonneg h0
      have e1 := Int.emod_nonneg a hb
      have e2 := Int.emod_lt_of_pos a (show 0 < b by omega)
      have e3 : a % b ≤ a := by
        have := Int.emod_add_mul_ediv a b
        have q : 0 ≤ b * (a / b) := Int.mul_nonneg (by omega) (Int.ediv_nonneg h0 (by omega))
        omega
      obtain ⟨g, g0, g1, hg⟩ := ih b (a % b) (by omega) e1 (by omega) (by omega)
      refine ⟨g, g0, by omega, fun k hk => ?_⟩
      obtain ⟨j, rfl⟩ : ∃ j, k = j + 1 := ⟨k - 1, by omega⟩
      obtain ⟨x1, x2⟩ := hg j (by omega)
      simp only [impl_gcd.l0, spec_chLow.l0]
      rw [if_neg hb, if_pos (by omega), if_neg hb, e]
      exact ⟨x1, x2⟩
theorem low_ev (n d : Int) (h0 : 0 ≤ n) (h1 : 0 < d) (h2 : d ≤ 9223372036854775807) : ∃ p K, ∀ k, K ≤ k → spec_chLow.f k n d = some p ∧ impl_fraction.f k n d = some (p.1, p.2, true) := by
  obtain ⟨g, g0, g1, hg⟩ := gcd_l n d d.toNat n d h0 (by omega) (by omega) (by omega)
  refine ⟨(wrap64 (Int.tdiv n g), wrap64 (Int.tdiv d g)), d.toNat + 1, fun k hk => ?_⟩
  obtain ⟨x1, x2⟩ := hg k (by omega)
  unfold spec_chLow.f impl_fraction.f impl_gcd.f
  rw [x1, x2, Option.bind_some, if_neg (by omega)]
  exact ⟨rfl, rfl⟩

end Go.Proofs.Ytdlififooknddaa.Pure
