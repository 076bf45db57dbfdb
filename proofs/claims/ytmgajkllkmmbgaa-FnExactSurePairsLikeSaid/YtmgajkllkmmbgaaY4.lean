/- Plain lemmas over the printed functions of this seat. -/
import Derived.Test.YtmgajkllkmmbgaaY0
import Derived.Test.YtmgajkllkmmbgaaPx16
set_option linter.unusedVariables false
set_option linter.unusedSimpArgs false
namespace Go.Proofs.Ytmgajkllkmmbgaa.Pure
open Go.RowKit Go.Proofs.Ytmgajkllkmmbgaa.P Go.Proofs.YtmgajkllkmmbgaaW.PrintWords Go.Proofs.YtmgajkllkmmbgaaW.PrintLast Go.Proofs.YtmgajkllkmmbgaaW.PrintMore

/-! ### the greatest of a list -/
theorem mx_eq (a b : Int) : mx a b = max a b := by unfold mx; omega
theorem mn_eq (a b : Int) : mn a b = min a b := by unfold mn; omega
theorem xMaxTo_next (l : List Int) (i : Nat) (h : i < l.length) (h1 : 1 ≤ i) : xMaxTo l (i + 1) = max (xMaxTo l i) l[i] := by
  have := xMaxTo_step l i h h1
  rw [rd_at l i h] at this
  rw [← this]; omega
theorem xMaxTo_le (l : List Int) : ∀ n, 1 ≤ n → n ≤ l.length → ∀ (i : Nat) (h : i < l.length), i < n → l[i] ≤ xMaxTo l n := by
  intro n
  induction n with
  | zero => intro h; omega
  | succ n ih =>
    intro h1 hn i h hi
    by_cases hn0 : n = 0
    · subst hn0
      obtain rfl : i = 0 := by omega
      rw [xMaxTo_one]
      have := rd_at l 0 h
      simp at this
      rw [this]; exact Int.le_refl _
    · rw [xMaxTo_next l n (by omega) (by omega)]
      by_cases hin : i < n
      · have := ih (by omega) (by omega) i h hin; omega
      · obtain rfl : i = n := by omega
        omega
theorem xMaxTo_mem (l : List Int) : ∀ n, 1 ≤ n → n ≤ l.length → xMaxTo l n ∈ l := by
  intro n
  induction n with
  | zero => intro h; omega
  | succ n ih =>
    intro h1 hn
    by_cases hn0 : n = 0
    · subst hn0
      rw [xMaxTo_one]
      have := rd_at l 0 (by omega)
      simp at this
      rw [this]; exact List.getElem_mem _
    · rw [xMaxTo_next l n (by omega) (by omega)]
      have := ih (by omega) (by omega)
      by_cases hc : xMaxTo l n ≤ l[n]
      · rw [Int.max_eq_right hc]; exact List.getElem_mem _
      · rw [Int.max_eq_left (by omega)]; exact this
theorem le_max_iff (l : List Int) (h : 1 ≤ l.length) (c : Int) : c ≤ xMaxTo l l.length ↔ ∃ x ∈ l, c ≤ x := by
  constructor
  · intro hc; exact ⟨_, xMaxTo_mem l l.length h (Nat.le_refl _), hc⟩
  · rintro ⟨x, hx, hc⟩
    obtain ⟨i, hi, rfl⟩ := List.mem_iff_getElem.1 hx
    have := xMaxTo_le l l.length h (Nat.le_refl _) i hi hi
    omega

/-! ### pairs of one colour -/
/-- One of each more than can be without so many pairs. -/
def likeSum (p : Int) (l : List Int) : Int := (l.map fun x => min x (2 * p - 1)).sum
theorem likeSum_cons (p x : Int) (l : List Int) : likeSum p (x :: l) = min x (2 * p - 1) + likeSum p l := by simp [likeSum]
theorem likeS_l (l : List Int) (p : Int) (hp : 1 ≤ p) (hl : l.length ≤ 8) (hg : ∀ x ∈ l, 0 ≤ x ∧ x ≤ 20) : ∀ (n k i : Nat) (s : Int) (f : Bool), l.length - i = n → i ≤ l.length → n < k → 0 ≤ s → s ≤ 20 * i →
    spec_SurePairsLike.l0 k p s f l l.length i = some (if (f || (l.drop i).any fun x => decide (2 * p ≤ x)) = true then (s + likeSum p (l.drop i) + 1, true) else (0, false)) := by
  intro n
  induction n with
  | zero =>
    intro k i s f hd hle hk h0 h1
    obtain ⟨m, rfl⟩ : ∃ m, k = m + 1 := ⟨k - 1, by omega⟩
    obtain rfl : i = l.length := by omega
    simp only [spec_SurePairsLike.l0]
    rw [if_neg (by omega), List.drop_length, wrap_small (by omega) (by omega)]
    cases f <;> simp [likeSum]
  | succ n ih =>
    intro k i s f hd hle hk h0 h1
    obtain ⟨m, rfl⟩ : ∃ m, k = m + 1 := ⟨k - 1, by omega⟩
    have hlt : i < l.length := by omega
    have hx := hg l[i] (List.getElem_mem hlt)
    have e : Int.tdiv l[i] 2 = l[i] / 2 := Int.tdiv_eq_ediv_of_nonneg hx.1
    simp only [spec_SurePairsLike.l0]
    rw [if_pos (by omega), if_pos (by omega), if_pos (by omega), rd_at l i hlt, e, wrap_small (x := l[i] / 2) (by omega) (by omega), wrap_succ hlt (by omega), List.drop_eq_getElem_cons hlt, likeSum_cons]
    by_cases hc : 2 * p ≤ l[i]
    · rw [if_pos (by omega), wrap_small (x := 2 * p) (by omega) (by omega), wrap_small (x := 2 * p - 1) (by omega) (by omega), wrap_small (x := s + (2 * p - 1)) (by omega) (by omega), ih m (i + 1) _ _ (by omega) (by omega) (by omega) (by omega) (by omega)]
      simp only [List.any_cons, decide_eq_true hc, Bool.true_or, Bool.or_true, if_true]
      rw [Int.min_eq_right (by omega : 2 * p - 1 ≤ l[i])]
      congr 2
      omega
    · rw [if_neg (by omega), wrap_small (x := s + l[i]) (by omega) (by omega), ih m (i + 1) _ _ (by omega) (by omega) (by omega) (by omega) (by omega)]
      rw [Int.min_eq_left (by omega : l[i] ≤ 2 * p - 1)]
      simp only [List.any_cons, decide_eq_false hc, Bool.false_or]
      rw [show s + (l[i] + likeSum p (l.drop (i + 1))) + 1 = s + l[i] + likeSum p (l.drop (i + 1)) + 1 by omega]
theorem likeI_l (l : List Int) (p : Int) (hp : 1 ≤ p) (hp2 : p ≤ 10) (hl : l.length ≤ 8) (hg : ∀ x ∈ l, 0 ≤ x ∧ x ≤ 20) : ∀ (n k i : Nat) (s : Int), l.length - i = n → i ≤ l.length → n < k → 0 ≤ s → s ≤ 20 * i →
    impl_SurePairsLike.l0 k p s l l.length i = some (s + likeSum p (l.drop i) + 1, true) := by
  intro n
  induction n with
  | zero =>
    intro k i s hd hle hk h0 h1
    obtain ⟨m, rfl⟩ : ∃ m, k = m + 1 := ⟨k - 1, by omega⟩
    obtain rfl : i = l.length := by omega
    simp only [impl_SurePairsLike.l0]
    rw [if_neg (by omega), List.drop_length, wrap_small (by omega) (by omega)]
    simp [likeSum]
  | succ n ih =>
    intro k i s hd hle hk h0 h1
    obtain ⟨m, rfl⟩ : ∃ m, k = m + 1 := ⟨k - 1, by omega⟩
    have hlt : i < l.length := by omega
    have hx := hg l[i] (List.getElem_mem hlt)
    simp only [impl_SurePairsLike.l0]
    rw [if_pos (by omega), if_pos (by omega), if_pos (by omega), rd_at l i hlt, wrap_small (x := 2 * p) (by omega) (by omega), wrap_small (x := 2 * p - 1) (by omega) (by omega), mn_eq, wrap_small (x := s + min l[i] (2 * p - 1)) (by omega) (by omega), wrap_succ hlt (by omega), List.drop_eq_getElem_cons hlt, likeSum_cons, ih m (i + 1) _ (by omega) (by omega) (by omega) (by omega) (by omega)]
    simp [Int.add_assoc]
theorem SurePairsLike_ev (l : List Int) (p : Int) (hl : l.length ≤ 1048576) : ∃ r K, ∀ k, K ≤ k → spec_SurePairsLike.f k l p = some r ∧ impl_SurePairsLike.f k l p = some r := by
  obtain ⟨K1, h1⟩ := soGood_ev l (by omega)
  obtain ⟨K2, h2⟩ := AreSocks_ev l (by omega)
  by_cases hg : goodB l = true
  · obtain ⟨g1, g2, g3, g4⟩ := goodB_iff.1 hg
    have hmx : ∀ c : Int, c ≤ xMaxTo l l.length ↔ ∃ x ∈ l, c ≤ x := le_max_iff l g1
    have hm := g3 _ (xMaxTo_mem l l.length g1 (Nat.le_refl _))
    have e : Int.tdiv (xMaxTo l l.length) 2 = xMaxTo l l.length / 2 := Int.tdiv_eq_ediv_of_nonneg hm.1
    have e2 : wrap64 (xMaxTo l l.length / 2) = xMaxTo l l.length / 2 := wrap_small (by omega) (by omega)
    have hM : slices_Max_int_int.f l = some (xMaxTo l l.length) := by unfold slices_Max_int_int.f; rw [if_pos (by omega)]
    refine ⟨if 1 ≤ p ∧ 2 * p ≤ xMaxTo l l.length then (likeSum p l + 1, true) else (0, false), K1 + K2 + 20, fun k hk => ?_⟩
    obtain ⟨m, rfl⟩ : ∃ m, k = m + 1 := ⟨k - 1, by omega⟩
    constructor
    · simp (disch := omega) only [spec_SurePairsLike.f, spec_SurePairsLike.j0, h1, hg, Option.bind_some, if_true]
      by_cases hp : p < 1
      · simp [hp, show ¬ (1 ≤ p) by omega]
      · have h := likeS_l l p (by omega) g2 g3 l.length m 0 0 false (by omega) (by omega) (by omega) (by omega) (by omega)
        simp only [Int.natCast_zero, List.drop_zero, Bool.false_or, Int.zero_add] at h
        simp only [hp, decide_false, Bool.false_eq_true, if_false]
        rw [h]
        by_cases hc : 2 * p ≤ xMaxTo l l.length
        · have h' := (hmx _).1 hc
          have : (l.any fun x => decide (2 * p ≤ x)) = true := by simpa using h'
          rw [if_pos this, if_pos ⟨by omega, hc⟩]
        · have : ¬ (l.any fun x => decide (2 * p ≤ x)) = true := by
            intro hh
            exact hc ((hmx _).2 (by simpa using hh))
          rw [if_neg this, if_neg (fun hh => hc hh.2)]
    · simp (disch := omega) only [impl_SurePairsLike.f, impl_SurePairsLike.j0, h2, hg, hM, e, e2, within_eq, Option.bind_some, if_true]
      by_cases hc : 1 ≤ p ∧ 2 * p ≤ xMaxTo l l.length
      · have e3 : (!(decide (1 ≤ p) && decide (p ≤ xMaxTo l l.length / 2))) = false := by simp; omega
        have h := likeI_l l p (by omega) (by omega) g2 g3 l.length m 0 0 (by omega) (by omega) (by omega) (by omega) (by omega)
        simp only [Int.natCast_zero, List.drop_zero, Int.zero_add] at h
        rw [e3, if_pos hc]
        simp only [Bool.false_eq_true, if_false]
        exact h
      · have e3 : (!(decide (1 ≤ p) && decide (p ≤ xMaxTo l l.length / 2))) = true := by simp; omega
        rw [e3, if_neg hc, if_pos rfl]
  · have hg' : goodB l = false := by simpa using hg
    refine ⟨(0, false), K1 + K2 + 20, fun k hk => ?_⟩
    obtain ⟨m, rfl⟩ : ∃ m, k = m + 1 := ⟨k - 1, by omega⟩
    simp (disch := omega) only [spec_SurePairsLike.f, spec_SurePairsLike.j0, impl_SurePairsLike.f, impl_SurePairsLike.j0, h1, h2, hg', Option.bind_some, Bool.false_eq_true, if_false, if_true, and_self]

end Go.Proofs.Ytmgajkllkmmbgaa.Pure
