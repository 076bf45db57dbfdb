/- Plain lemmas over the printed functions of this seat. -/
import Derived.Test.YtjldifjfgeifcaaY2
import Derived.Test.YtjldifjfgeifcaaY3
set_option linter.unusedVariables false
set_option linter.unusedSimpArgs false
namespace Go.Proofs.Ytjldifjfgeifcaa.Pure
open Go.RowKit Go.Proofs.Ytjldifjfgeifcaa.P Go.Proofs.YtjldifjfgeifcaaW.PrintWords Go.Proofs.YtjldifjfgeifcaaW.PrintLast Go.Proofs.YtjldifjfgeifcaaW.PrintMore

/-! ### lowest terms, over the natural numbers -/
theorem gcd_nat (n d : Int) : ∀ (q p k : Nat), 0 < p + q → q < k →
    impl_gcd.l0 k p q = some ((Nat.gcd p q : Nat) : Int) ∧ spec_chLow.l0 k n d p q = some (wrap64 (Int.tdiv n (Nat.gcd p q : Nat)), wrap64 (Int.tdiv d (Nat.gcd p q : Nat))) := by
  intro q
  induction q using Nat.strongRecOn with
  | _ q ih =>
    intro p k h0 hk
    obtain ⟨j, rfl⟩ : ∃ j, k = j + 1 := ⟨k - 1, by omega⟩
    by_cases hq : q = 0
    · subst hq
      simp only [impl_gcd.l0, spec_chLow.l0, Nat.gcd_zero_right]
      rw [if_pos (by rfl), if_neg (by omega), if_neg (by omega)]
      exact ⟨rfl, rfl⟩
    · have hlt := Nat.mod_lt p (show 0 < q by omega)
      have e : Int.tmod (p : Int) (q : Int) = ((p % q : Nat) : Int) := (Int.ofNat_tmod p q).symm
      obtain ⟨x1, x2⟩ := ih (p % q) hlt q j (by omega) (by omega)
      have eg : Nat.gcd q (p % q) = Nat.gcd p q := by rw [Nat.gcd_comm q, ← Nat.gcd_rec, Nat.gcd_comm]
      rw [eg] at x1 x2
      simp only [impl_gcd.l0, spec_chLow.l0]
      rw [if_neg (by omega), if_pos (by omega), if_neg (by omega), e]
      exact ⟨x1, x2⟩
theorem low_nat (n d : Nat) (h1 : 0 < d) (h2 : d ≤ 9223372036854775807) (h3 : n ≤ 9223372036854775807) : ∀ k, d < k →
    spec_chLow.f k n d = some (((n / Nat.gcd n d : Nat) : Int), ((d / Nat.gcd n d : Nat) : Int)) ∧ impl_fraction.f k n d = some (((n / Nat.gcd n d : Nat) : Int), ((d / Nat.gcd n d : Nat) : Int), true) := by
  intro k hk
  obtain ⟨x1, x2⟩ := gcd_nat n d d n k (by omega) hk
  have g0 : 0 < Nat.gcd n d := Nat.gcd_pos_of_pos_right n h1
  have e1 : wrap64 (Int.tdiv (n : Int) (Nat.gcd n d : Nat)) = ((n / Nat.gcd n d : Nat) : Int) := by
    have := Nat.div_le_self n (Nat.gcd n d)
    rw [← Int.ofNat_tdiv]; generalize n / Nat.gcd n d = z at *; exact wrap_small (by omega) (by omega)
  have e2 : wrap64 (Int.tdiv (d : Int) (Nat.gcd n d : Nat)) = ((d / Nat.gcd n d : Nat) : Int) := by
    have := Nat.div_le_self d (Nat.gcd n d)
    rw [← Int.ofNat_tdiv]; generalize d / Nat.gcd n d = z at *; exact wrap_small (by omega) (by omega)
  unfold spec_chLow.f impl_fraction.f impl_gcd.f
  rw [x1, x2, Option.bind_some, if_neg (by omega), e1, e2]
  exact ⟨rfl, rfl⟩

theorem polys_zero (l : List Int) : ∀ (D E : Nat → Int) (t : Nat), (∀ j, t < j → D j = 0 ∧ E j = 0) → ∀ j, t + l.length < j → (polys D E l).1 j = 0 ∧ (polys D E l).2 j = 0 := by
  induction l with
  | nil => intro D E t h j hj; exact h j (by simpa using hj)
  | cons n l ih =>
    intro D E t h j hj
    simp only [List.length_cons] at hj
    refine ih (nD n D) (nE n D E) (t + 1) (fun j hj => ?_) j (by omega)
    have w0 : wrap64 0 = 0 := wrap_small (by omega) (by omega)
    have h1 := h j (by omega)
    have h2 := h (j - 1) (by omega)
    unfold nD nE
    rw [if_neg (by omega), if_neg (by omega), h1.1, h1.2, h2.1, h2.2]
    simp [w0]
theorem polys_bd (l : List Int) : ∀ (D E : Nat → Int) (b : Int), 0 ≤ b → (∀ j, 0 ≤ D j ∧ D j ≤ b) → (∀ j, 0 ≤ E j ∧ E j ≤ 160 * b) → (∀ x ∈ l, 0 ≤ x ∧ x ≤ 20) → 160 * (b * 24 ^ l.length) ≤ 9223372036854775807 →
    (∀ j, 0 ≤ (polys D E l).1 j ∧ (polys D E l).1 j ≤ b * 24 ^ l.length) ∧ (∀ j, 0 ≤ (polys D E l).2 j ∧ (polys D E l).2 j ≤ 160 * (b * 24 ^ l.length)) := by
  induction l with
  | nil => intro D E b hb h1 h2 _ _; simpa [polys] using ⟨h1, h2⟩
  | cons n l ih =>
    intro D E b hb h1 h2 h3 h4
    have hn := h3 n (by simp)
    simp only [List.length_cons, Int.pow_succ] at h4 ⊢
    have eb : b * (24 ^ l.length * 24) = b * 24 * 24 ^ l.length := by rw [Int.mul_comm (24 ^ l.length) 24, Int.mul_assoc]
    rw [eb] at h4 ⊢
    have hp : (1 : Int) ≤ 24 ^ l.length := Int.pow_pos (by omega)
    have hq : b * 24 * 1 ≤ b * 24 * 24 ^ l.length := Int.mul_le_mul_of_nonneg_left hp (by omega)
    refine ih (nD n D) (nE n D E) (b * 24) (by omega) (fun j => ?_) (fun j => ?_) (fun x hx => h3 x (by simp [hx])) h4
    · unfold nD
      split
      · have := h1 0; omega
      · have a1 := h1 j; have a2 := h1 (j - 1)
        have a3 : 0 ≤ D (j - 1) * n := Int.mul_nonneg a2.1 hn.1
        have a4 : D (j - 1) * n ≤ b * 20 := Int.mul_le_mul a2.2 hn.2 hn.1 hb
        rw [wrap_small (x := D (j - 1) * n) (by omega) (by omega), wrap_small (by omega) (by omega)]
        omega
    · unfold nE
      split
      · have := h2 0; omega
      · have a1 := h2 j; have a2 := h1 (j - 1); have a5 := h2 (j - 1)
        have a3 : 0 ≤ D (j - 1) * n := Int.mul_nonneg a2.1 hn.1
        have a4 : D (j - 1) * n ≤ b * 20 := Int.mul_le_mul a2.2 hn.2 hn.1 hb
        have a6 : 0 ≤ E (j - 1) * n := Int.mul_nonneg a5.1 hn.1
        have a7 : E (j - 1) * n ≤ 160 * b * 20 := Int.mul_le_mul a5.2 hn.2 hn.1 (by omega)
        by_cases n0 : n = 0
        · subst n0
          have w0 : wrap64 0 = 0 := wrap_small (by omega) (by omega)
          simp only [Int.mul_zero, w0, Int.zero_mul, Int.add_zero]
          rw [wrap_small (by omega) (by omega)]
          omega
        · have a8 : 0 ≤ D (j - 1) * n * (n - 1) := Int.mul_nonneg a3 (by omega)
          have a9 : D (j - 1) * n * (n - 1) ≤ b * 20 * 19 := Int.mul_le_mul a4 (by omega) (by omega) (by omega)
          rw [wrap_small (x := D (j - 1) * n) (by omega) (by omega), wrap_small (x := E (j - 1) * n) (by omega) (by omega), wrap_small (x := n - 1) (by omega) (by omega), wrap_small (x := D (j - 1) * n * (n - 1)) (by omega) (by omega), wrap_small (x := E (j - 1) * n + D (j - 1) * n * (n - 1)) (by omega) (by omega), wrap_small (by omega) (by omega)]
          omega
theorem polys_few (l : List Int) (h1 : l.length ≤ 8) (h3 : ∀ x ∈ l, 0 ≤ x ∧ x ≤ 20) : (∀ j, 0 ≤ (polys oneZ (fun _ => 0) l).1 j ∧ (polys oneZ (fun _ => 0) l).1 j ≤ 110075314176) ∧ (∀ j, 0 ≤ (polys oneZ (fun _ => 0) l).2 j ∧ (polys oneZ (fun _ => 0) l).2 j ≤ 17612050268160) := by
  have hp : (24 : Int) ^ l.length ≤ 24 ^ 8 := by
    have e : ∀ d : Nat, l.length + d = 8 → (24 : Int) ^ l.length ≤ 24 ^ 8 := by
      intro d hd
      rw [← hd, Int.pow_add]
      have a : (1 : Int) ≤ 24 ^ d := Int.pow_pos (by omega)
      have b : (0 : Int) ≤ 24 ^ l.length := Int.pow_nonneg (by omega)
      have := Int.mul_le_mul_of_nonneg_left a b
      omega
    exact e (8 - l.length) (by omega)
  have hh : (24 : Int) ^ 8 = 110075314176 := by decide
  have := polys_bd l oneZ (fun _ => 0) 1 (by omega) (fun j => by unfold oneZ; split <;> omega) (fun j => by omega) h3 (by omega)
  refine ⟨fun j => ?_, fun j => ?_⟩
  · have := this.1 j; omega
  · have := this.2 j; omega
theorem polys_none (l : List Int) : ∀ j, l.length < j → (polys oneZ (fun _ => 0) l).1 j = 0 ∧ (polys oneZ (fun _ => 0) l).2 j = 0 := by
  intro j hj
  exact polys_zero l oneZ (fun _ => 0) 0 (fun j hj => ⟨by unfold oneZ; rw [if_neg (by omega)], rfl⟩) j (by omega)

end Go.Proofs.Ytjldifjfgeifcaa.Pure
