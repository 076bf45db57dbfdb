/- Plain lemmas over the printed functions of this seat. -/
import Derived.Test.YtjldifjfgeifcaaY6
import Derived.Test.YtjldifjfgeifcaaY8
import Derived.Test.YtjldifjfgeifcaaPx13
import Derived.Test.YtjldifjfgeifcaaPx14
set_option linter.unusedVariables false
set_option linter.unusedSimpArgs false
namespace Go.Proofs.Ytjldifjfgeifcaa.Pure
open Go.RowKit Go.Proofs.Ytjldifjfgeifcaa.P Go.Proofs.YtjldifjfgeifcaaW.PrintWords Go.Proofs.YtjldifjfgeifcaaW.PrintLast Go.Proofs.YtjldifjfgeifcaaW.PrintMore

theorem one_two (n : Int) (h : 0 ≤ n) : 1 + n ≤ 2 ^ n.toNat := by
  obtain ⟨m, rfl⟩ := Int.eq_ofNat_of_zero_le h
  have a := Nat.lt_two_pow_self (n := m)
  have b : ((m + 1 : Nat) : Int) ≤ ((2 ^ m : Nat) : Int) := by omega
  simp only [Int.toNat_natCast]
  rw [Int.natCast_pow] at b
  have b2 : (m : Int) + 1 ≤ 2 ^ m := b
  omega
theorem polysD_bd (l : List Int) : ∀ (D E : Nat → Int) (b : Int), 0 ≤ b → (∀ j, 0 ≤ D j ∧ D j ≤ b) → (∀ x ∈ l, 0 ≤ x ∧ x ≤ 20) → b * 2 ^ l.sum.toNat ≤ 9223372036854775807 →
    ∀ j, 0 ≤ (polys D E l).1 j ∧ (polys D E l).1 j ≤ b * 2 ^ l.sum.toNat := by
  induction l with
  | nil => intro D E b hb h1 _ _; simpa [polys] using h1
  | cons n l ih =>
    intro D E b hb h1 h3 h4
    have hn := h3 n (by simp)
    have hs := (sum_bounds l 20 (fun x hx => h3 x (by simp [hx]))).1
    have es : (n :: l).sum.toNat = n.toNat + l.sum.toNat := by rw [List.sum_cons]; omega
    rw [es, Int.pow_add, ← Int.mul_assoc] at h4 ⊢
    have h2 := one_two n hn.1
    have hp : (1 : Int) ≤ 2 ^ l.sum.toNat := Int.pow_pos (by omega)
    have hq : b * 2 ^ n.toNat * 1 ≤ b * 2 ^ n.toNat * 2 ^ l.sum.toNat := Int.mul_le_mul_of_nonneg_left hp (Int.mul_nonneg hb (by omega))
    have hr : b * (1 + n) ≤ b * 2 ^ n.toNat := Int.mul_le_mul_of_nonneg_left h2 hb
    rw [Int.mul_add] at hr
    have hbn : 0 ≤ b * n := Int.mul_nonneg hb hn.1
    refine ih (nD n D) (nE n D E) (b * 2 ^ n.toNat) (by omega) (fun j => ?_) (fun x hx => h3 x (by simp [hx])) h4
    unfold nD
    split
    · have := h1 0; omega
    · have a1 := h1 j; have a2 := h1 (j - 1)
      have a3 : 0 ≤ D (j - 1) * n := Int.mul_nonneg a2.1 hn.1
      have a4 : D (j - 1) * n ≤ b * n := Int.mul_le_mul_of_nonneg_right a2.2 hn.1
      rw [wrap_small (x := D (j - 1) * n) (by omega) (by omega), wrap_small (by omega) (by omega)]
      omega
/-- What a place's numbers are, and how the two ways' rounds go through them. -/
structure Places (S L : Nat) (D : Nat → Int) (c d : Nat → Nat) : Prop where
  small : S ≤ 16
  few : L ≤ 8
  ask : ∀ i, (i ≤ S → 0 < c i ∧ c i ≤ 12870 ∧ c i ∣ 720720) ∧ (S < i → c i = 0) ∧ ∀ m, 60 ≤ m → spec_chChoose.f m S i = some ((c i : Nat) : Int) ∧ impl_choose.f m S i = some ((c i : Nat) : Int)
  low : ∀ i, d i ≤ 65536
  is : ∀ i, D i = ((d i : Nat) : Int)
  none : ∀ i, L < i → d i = 0
theorem Places.dvd {S L : Nat} {D : Nat → Int} {c d : Nat → Nat} (h : Places S L D c d) (i : Nat) (h0 : 0 < c i) : c i ∣ 720720 := by
  by_cases hi : i ≤ S
  · exact ((h.ask i).1 hi).2.2
  · rw [(h.ask i).2.1 (by omega)] at h0; omega
theorem Places.at {S L : Nat} {D : Nat → Int} {c d : Nat → Nat} (h : Places S L D c d) (i : Nat) : Low 720720 65536 i (upto c d i) := upto_low 720720 65536 (by omega) c d h.dvd h.low i
theorem mean_spec {S L : Nat} {D : Nat → Int} {c d : Nat → Nat} (h : Places S L D c d) : ∀ (n i k : Nat), S + 1 - i = n → i ≤ S + 1 → big + 60 + n < k →
    spec_MeanUntilPair.l0 k S (((upto c d i).1 : Nat) : Int) (((upto c d i).2 : Nat) : Int) (mp D (S + 1)) ((S + 1 : Nat) : Int) i = some ((((upto c d (S + 1)).1 : Nat) : Int), (((upto c d (S + 1)).2 : Nat) : Int), true) := by
  intro n
  induction n with
  | zero =>
    intro i k hd hi hk
    obtain ⟨m, rfl⟩ : ∃ m, k = m + 1 := ⟨k - 1, by omega⟩
    obtain rfl : i = S + 1 := by omega
    simp only [spec_MeanUntilPair.l0]
    rw [if_neg (by omega)]
  | succ n ih =>
    intro i k hd hi hk
    obtain ⟨m, hm⟩ : ∃ m, k = m + 1 := ⟨k - 1, by omega⟩
    subst hm
    obtain ⟨a1, a2, a3⟩ := h.ask i
    obtain ⟨c0, c1, c2⟩ := a1 (by omega)
    have hs := h.small
    have e1 := (nxt_ev (c i) (d i) (upto c d i) i (h.at i) (by omega) c0 c1 (h.low i) m (by omega)).1
    have e2 := (a3 m (by omega)).1
    have e3 := ih (i + 1) m (by omega) (by omega) (by omega)
    simp only [spec_MeanUntilPair.l0]
    rw [if_pos (by omega), if_pos (by omega), if_pos (by rw [mp_len]; omega), e2, Option.bind_some, rd_mp D (S + 1) i (by omega), h.is i, e1, Option.bind_some, wrap_small (x := (i : Int) + 1) (by omega) (by omega)]
    exact e3
theorem mean_impl {S L : Nat} {D E : Nat → Int} {c d : Nat → Nat} (h : Places S L D c d) (l : List Int) (Kt : Nat) (ht : ∀ k, Kt ≤ k → impl_total.f k l = some (S : Int)) : ∀ (n i k : Nat), L + 1 - i = n → i ≤ L + 1 → big + 60 + Kt + n < k →
    impl_MeanUntilPair.l0 k l (((upto c d i).1 : Nat) : Int) (((upto c d i).2 : Nat) : Int) (mp (prS D E) (L + 1)) ((L + 1 : Nat) : Int) i = some ((((upto c d (L + 1)).1 : Nat) : Int), (((upto c d (L + 1)).2 : Nat) : Int), true) := by
  intro n
  induction n with
  | zero =>
    intro i k hd hi hk
    obtain ⟨m, rfl⟩ : ∃ m, k = m + 1 := ⟨k - 1, by omega⟩
    obtain rfl : i = L + 1 := by omega
    simp only [impl_MeanUntilPair.l0]
    rw [if_neg (by omega)]
  | succ n ih =>
    intro i k hd hi hk
    obtain ⟨m, hm⟩ : ∃ m, k = m + 1 := ⟨k - 1, by omega⟩
    subst hm
    obtain ⟨a1, a2, a3⟩ := h.ask i
    have hs := h.few
    have e2 := (a3 m (by omega)).2
    have e3 := ih (i + 1) m (by omega) (by omega) (by omega)
    simp only [impl_MeanUntilPair.l0]
    rw [if_pos (by omega), if_pos (by omega), if_pos (by rw [mp_len]; omega), ht m (by omega), Option.bind_some, e2, Option.bind_some]
    rw [wrap_small (x := (i : Int) + 1) (by omega) (by omega)]
    by_cases hc : c i = 0
    · rw [if_neg (by omega)]
      have : upto c d (i + 1) = upto c d i := by show nxt (c i) (d i) (upto c d i) = _; unfold nxt; rw [if_pos hc]
      rw [this] at e3
      exact e3
    · have hi2 : i ≤ S := by
        by_cases hh : i ≤ S
        · exact hh
        · exact absurd (a2 (by omega)) hc
      obtain ⟨c0, c1, c2⟩ := a1 hi2
      have e1 := (nxt_ev (c i) (d i) (upto c d i) i (h.at i) (by omega) c0 c1 (h.low i) m (by omega)).2
      rw [if_pos (by omega), rdT_mp _ (L + 1) i (by omega)]
      simp only [prS]
      rw [h.is i, e1, Option.bind_some]
      exact e3
theorem mean_spec0 {S L : Nat} {D : Nat → Int} {c d : Nat → Nat} (h : Places S L D c d) (k : Nat) (hk : big + 60 + (S + 1) < k) :
    spec_MeanUntilPair.l0 k S 0 1 (mp D (S + 1)) ((S + 1 : Nat) : Int) 0 = some ((((upto c d (S + 1)).1 : Nat) : Int), (((upto c d (S + 1)).2 : Nat) : Int), true) := by
  have := mean_spec h (S + 1) 0 k rfl (Nat.zero_le _) hk
  have e0 : (((upto c d 0).1 : Nat) : Int) = 0 := rfl
  have e1 : (((upto c d 0).2 : Nat) : Int) = 1 := rfl
  have e2 : ((0 : Nat) : Int) = 0 := rfl
  rw [e0, e1, e2] at this
  exact this
theorem mean_impl0 {S L : Nat} {D E : Nat → Int} {c d : Nat → Nat} (h : Places S L D c d) (l : List Int) (Kt : Nat) (ht : ∀ k, Kt ≤ k → impl_total.f k l = some (S : Int)) (k : Nat) (hk : big + 60 + Kt + (L + 1) < k) :
    impl_MeanUntilPair.l0 k l 0 1 (mp (prS D E) (L + 1)) ((L + 1 : Nat) : Int) 0 = some ((((upto c d (L + 1)).1 : Nat) : Int), (((upto c d (L + 1)).2 : Nat) : Int), true) := by
  have := mean_impl (E := E) h l Kt ht (L + 1) 0 k rfl (Nat.zero_le _) hk
  have e0 : (((upto c d 0).1 : Nat) : Int) = 0 := rfl
  have e1 : (((upto c d 0).2 : Nat) : Int) = 1 := rfl
  have e2 : ((0 : Nat) : Int) = 0 := rfl
  rw [e0, e1, e2] at this
  exact this
theorem MeanUntilPair_ev (l : List Int) (hl : l.length ≤ 1048576) : ∃ v K, ∀ k, K ≤ k → spec_MeanUntilPair.f k l = some v ∧ impl_MeanUntilPair.f k l = some v := by
  obtain ⟨K1, h1⟩ := soGood_ev l (by omega)
  obtain ⟨K2, h2⟩ := AreSocks_ev l (by omega)
  obtain ⟨K3, h3⟩ := soSum_ev l (by omega)
  obtain ⟨K4, h4⟩ := total_ev l (by omega)
  obtain ⟨K5, h5⟩ := soPairs_ev l (by omega)
  obtain ⟨K6, h6⟩ := pairsOf_ev l (by omega)
  by_cases hc : goodB l = true ∧ ¬ wsum 0 l > 16 ∧ (wpairs 0 l == 0) = false
  · obtain ⟨c1, c2, c3⟩ := hc
    obtain ⟨g1, g2, g3, g4⟩ := goodB_iff.1 c1
    have es := good_sum l g2 (allIn_iff.2 g3)
    obtain ⟨S, hS⟩ : ∃ S : Nat, wsum 0 l = S := ⟨(wsum 0 l).toNat, by omega⟩
    obtain ⟨K7, h7⟩ := chD_ev l hl S (by omega)
    obtain ⟨K8, h8⟩ := unl_ev l hl
    obtain ⟨c, hcs⟩ : ∃ c : Nat → Nat, ∀ i, (i ≤ S → 0 < c i ∧ c i ≤ 12870 ∧ c i ∣ 720720) ∧ (S < i → c i = 0) ∧ ∀ m, 60 ≤ m → spec_chChoose.f m S i = some ((c i : Nat) : Int) ∧ impl_choose.f m S i = some ((c i : Nat) : Int) :=
      ⟨fun i => Classical.choose (choice16 S (by omega) i), fun i => Classical.choose_spec (choice16 S (by omega) i)⟩
    have h16 : (2 : Int) ^ l.sum.toNat ≤ 65536 := by
      have := pow2_mono (show l.sum.toNat ≤ 16 by omega)
      have e : (2 : Int) ^ 16 = 65536 := by decide
      omega
    have hD := polysD_bd l oneZ (fun _ => 0) 1 (by omega) (fun j => by unfold oneZ; split <;> omega) g3 (by omega)
    have hpl : Places S l.length (polys oneZ (fun _ => 0) l).1 c (fun i => ((polys oneZ (fun _ => 0) l).1 i).toNat) :=
      ⟨by omega, g2, hcs, fun i => by have := hD i; omega, fun i => by have := hD i; omega, fun i hi => by have := (polys_none l i hi).1; omega⟩
    have hst := upto_still 720720 65536 (by omega) c _ hpl.dvd hpl.low (min S l.length + 1) (fun i hi => by
      by_cases hh : S < i
      · exact .inl ((hcs i).2.1 hh)
      · exact .inr (hpl.none i (by omega)))
    have hS1 := hst (S + 1) (by omega)
    have hL1 := hst (l.length + 1) (by omega)
    refine ⟨((((upto c (fun i => ((polys oneZ (fun _ => 0) l).1 i).toNat) (min S l.length + 1)).1 : Nat) : Int), (((upto c (fun i => ((polys oneZ (fun _ => 0) l).1 i).toNat) (min S l.length + 1)).2 : Nat) : Int), true), K1 + K2 + K3 + K4 + K5 + K6 + K7 + K8 + big + 100 + S + l.length, fun k hk => ⟨?_, ?_⟩⟩
    · obtain ⟨m, hm⟩ : ∃ m, k = m + 1 := ⟨k - 1, by omega⟩
      subst hm
      have := mean_spec0 hpl m (by omega)
      rw [hS1] at this
      have q1 := h1 (m + 1) (by omega)
      have q3 := h3 (m + 1) (by omega)
      have p3 := h3 m (by omega)
      have q5 := h5 (m + 1) (by omega)
      have q7 := h7 m (by omega)
      clear hst hS1 hL1 hcs h16 hD hk
      unfold spec_MeanUntilPair.f
      rw [q1, Option.bind_some, c1, if_pos rfl, q3, Option.bind_some, hS, if_neg (by omega), q5, Option.bind_some, c3]
      simp only [spec_MeanUntilPair.j0]
      rw [if_neg Bool.false_ne_true, p3, Option.bind_some, hS, q7, Option.bind_some]
      simp only [mp_len]
      exact this
    · obtain ⟨m, hm⟩ : ∃ m, k = m + 1 := ⟨k - 1, by omega⟩
      subst hm
      have := mean_impl0 (E := (polys oneZ (fun _ => 0) l).2) hpl l K4 (fun k hk => by rw [h4 k hk, hS]) m (by omega)
      rw [hL1] at this
      have q2 := h2 (m + 1) (by omega)
      have q4 := h4 (m + 1) (by omega)
      have q6 := h6 (m + 1) (by omega)
      have q8 := h8 m (by omega)
      clear hst hS1 hL1 hcs h16 hD hk
      unfold impl_MeanUntilPair.f
      rw [q2, Option.bind_some, c1, if_pos rfl, q4, Option.bind_some, hS, if_neg (by omega), q6, Option.bind_some, c3]
      simp only [impl_MeanUntilPair.j0]
      rw [if_neg Bool.false_ne_true, q8, Option.bind_some]
      simp only [mp_len]
      exact this
  · refine ⟨(0, 0, false), K1 + K2 + K3 + K4 + K5 + K6 + 9, fun k hk => ?_⟩
    obtain ⟨m, rfl⟩ : ∃ m, k = m + 1 := ⟨k - 1, by omega⟩
    simp (disch := omega) only [spec_MeanUntilPair.f, spec_MeanUntilPair.j0, impl_MeanUntilPair.f, impl_MeanUntilPair.j0, h1, h2, h3, h4, h5, h6, Option.bind_some, if_true]
    cases hg : goodB l with
    | false => simp
    | true =>
      by_cases hw : wsum 0 l > 16
      · simp [hw]
      · cases hp : (wpairs 0 l == 0) with
        | true => simp [hw]
        | false => exact absurd ⟨hg, hw, hp⟩ hc

end Go.Proofs.Ytjldifjfgeifcaa.Pure
