/- Plain lemmas over the printed functions of this seat. -/
import Derived.Test.YtdlififooknddaaY3
import Derived.Test.YtdlififooknddaaPx17
set_option linter.unusedVariables false
set_option linter.unusedSimpArgs false
namespace Go.Proofs.Ytdlififooknddaa.Pure
open Go.RowKit Go.Proofs.Ytdlififooknddaa.P Go.Proofs.YtdlififooknddaaW.PrintWords Go.Proofs.YtdlififooknddaaW.PrintLast Go.Proofs.YtdlififooknddaaW.PrintMore

/-! ### one sock of each of two lists -/
def dotW (a : Int) : List Int → List Int → Int
  | x :: l, y :: r => dotW (wrap64 (a + wrap64 (x * y))) l r
  | _, _ => a
theorem dotW_small : ∀ (l r : List Int) (a : Int), 0 ≤ a → l.length = r.length → (∀ x ∈ l, 0 ≤ x ∧ x ≤ 20) → (∀ x ∈ r, 0 ≤ x ∧ x ≤ 20) → a + 400 * l.length ≤ 1000000 → 0 ≤ dotW a l r ∧ dotW a l r ≤ a + 400 * l.length := by
  intro l
  induction l with
  | nil => intro r a h0 he _ _ _; cases r with | nil => simp [dotW]; exact h0 | cons y r => simp at he
  | cons x l ih =>
    intro r a h0 he h1 h2 h3
    cases r with
    | nil => simp at he
    | cons y r =>
      have hx := h1 x (by simp)
      have hy := h2 y (by simp)
      have hp : 0 ≤ x * y ∧ x * y ≤ 20 * 20 := ⟨Int.mul_nonneg hx.1 hy.1, Int.mul_le_mul hx.2 hy.2 hy.1 (by omega)⟩
      simp only [List.length_cons] at h3 he ⊢
      simp only [dotW]
      rw [wrap_small (x := x * y) (by omega) (by omega), wrap_small (by omega) (by omega)]
      have := ih r (a + x * y) (by omega) (by omega) (fun z hz => h1 z (by simp [hz])) (fun z hz => h2 z (by simp [hz])) (by omega)
      omega
theorem TogS_l (l r : List Int) (hl : l.length ≤ 1048576) (he : l.length = r.length) (R : Int → Option (Int × Int × Bool)) (K : Nat) (hK : ∀ k, K ≤ k → ∀ x, ((spec_soSum.f k l).bind fun t395 => ((spec_soSum.f k r).bind fun t396 => ((spec_chLow.f k x (wrap64 (t395 * t396))).bind fun bt397 => (some (bt397.1, bt397.2, true))))) = R x ∨ x ≠ dotW 0 l r) :
    ∀ (n k i : Nat) (a : Int), l.length - i = n → i ≤ l.length → n + K < k → dotW a (l.drop i) (r.drop i) = dotW 0 l r →
    spec_ChanceTogether.l0 k l r a l l.length i = R (dotW 0 l r) := by
  intro n
  induction n with
  | zero =>
    intro k i a hd hle hk hw
    obtain ⟨m, rfl⟩ : ∃ m, k = m + 1 := ⟨k - 1, by omega⟩
    obtain rfl : i = l.length := by omega
    rw [List.drop_length, he, List.drop_length] at hw
    simp only [dotW] at hw
    subst hw
    simp only [spec_ChanceTogether.l0]
    rw [if_neg (by omega)]
    rcases hK m (by omega) (dotW 0 l r) with h | h
    · exact h
    · exact absurd rfl h
  | succ n ih =>
    intro k i a hd hle hk hw
    obtain ⟨m, rfl⟩ : ∃ m, k = m + 1 := ⟨k - 1, by omega⟩
    have hlt : i < l.length := by omega
    rw [List.drop_eq_getElem_cons hlt, List.drop_eq_getElem_cons (by omega : i < r.length)] at hw
    simp only [spec_ChanceTogether.l0]
    rw [if_pos (by omega), if_pos (by omega), if_pos (by omega), if_pos (by omega), rd_at l i hlt, rd_at r i (by omega), wrap_succ hlt (by omega)]
    exact ih m (i + 1) _ (by omega) (by omega) (by omega) hw
theorem TogI_l (l r : List Int) (hl : l.length ≤ 1048576) (he : l.length = r.length) (R : Int → Option (Int × Int × Bool)) (K : Nat) (hK : ∀ k, K ≤ k → ∀ x, ((impl_total.f k l).bind fun t403 => ((impl_total.f k r).bind fun t404 => ((impl_fraction.f k x (wrap64 (t403 * t404))).bind fun bt405 => (some (bt405.1, bt405.2.1, bt405.2.2))))) = R x ∨ x ≠ dotW 0 l r) :
    ∀ (n k i : Nat) (a : Int), l.length - i = n → i ≤ l.length → n + K < k → dotW a (l.drop i) (r.drop i) = dotW 0 l r →
    impl_ChanceTogether.l0 k l r a l.length i = R (dotW 0 l r) := by
  intro n
  induction n with
  | zero =>
    intro k i a hd hle hk hw
    obtain ⟨m, rfl⟩ : ∃ m, k = m + 1 := ⟨k - 1, by omega⟩
    obtain rfl : i = l.length := by omega
    rw [List.drop_length, he, List.drop_length] at hw
    simp only [dotW] at hw
    subst hw
    simp only [impl_ChanceTogether.l0]
    rw [if_neg (by omega)]
    rcases hK m (by omega) (dotW 0 l r) with h | h
    · exact h
    · exact absurd rfl h
  | succ n ih =>
    intro k i a hd hle hk hw
    obtain ⟨m, rfl⟩ : ∃ m, k = m + 1 := ⟨k - 1, by omega⟩
    have hlt : i < l.length := by omega
    rw [List.drop_eq_getElem_cons hlt, List.drop_eq_getElem_cons (by omega : i < r.length)] at hw
    simp only [impl_ChanceTogether.l0]
    rw [if_pos (by omega), if_pos (by omega), if_pos (by omega), if_pos (by omega), rd_at l i hlt, rd_at r i (by omega), wrap_succ hlt (by omega)]
    exact ih m (i + 1) _ (by omega) (by omega) (by omega) hw
theorem ChanceTogether_ev (l r : List Int) (hl : l.length ≤ 1048576) (hr : r.length ≤ 1048576) : ∃ v K, ∀ k, K ≤ k → spec_ChanceTogether.f k l r = some v ∧ impl_ChanceTogether.f k l r = some v := by
  obtain ⟨K1, h1⟩ := chGood_ev l hl
  obtain ⟨K2, h2⟩ := chGood_ev r hr
  obtain ⟨K3, h3⟩ := areFew_ev l hl
  obtain ⟨K4, h4⟩ := areFew_ev r hr
  by_cases hc : fewB l = true ∧ fewB r = true ∧ l.length = r.length
  · obtain ⟨hf, hf', he⟩ := hc
    obtain ⟨s1, s2, s3, s4, s5, s6⟩ := few_sum hf
    obtain ⟨t1, t2, t3, t4, t5, t6⟩ := few_sum hf'
    have hd := dotW_small l r 0 (by omega) he s6 t6 (by omega)
    have hp : 0 < l.sum * r.sum ∧ l.sum * r.sum ≤ 40 * 40 := ⟨Int.mul_pos s2 t2, Int.mul_le_mul s3 t3 (by omega) (by omega)⟩
    have ew : wrap64 (wsum 0 l * wsum 0 r) = l.sum * r.sum := by rw [s1, t1]; exact wrap_small (by omega) (by omega)
    obtain ⟨p, K5, h5⟩ := low_ev (dotW 0 l r) (l.sum * r.sum) hd.1 hp.1 (by omega)
    obtain ⟨K6, h6⟩ := soSum_ev l (by omega)
    obtain ⟨K7, h7⟩ := soSum_ev r (by omega)
    obtain ⟨K8, h8⟩ := total_ev l (by omega)
    obtain ⟨K9, h9⟩ := total_ev r (by omega)
    have hS := TogS_l l r hl he (fun _ => some (p.1, p.2, true)) (K5 + K6 + K7) (fun k hk x => by
      by_cases hx : x = dotW 0 l r
      · left
        rw [h6 k (by omega), h7 k (by omega), Option.bind_some, Option.bind_some, ew, hx, (h5 k (by omega)).1]; rfl
      · right; exact hx) l.length
    have hI := TogI_l l r hl he (fun _ => some (p.1, p.2, true)) (K5 + K8 + K9) (fun k hk x => by
      by_cases hx : x = dotW 0 l r
      · left
        rw [h8 k (by omega), h9 k (by omega), Option.bind_some, Option.bind_some, ew, hx, (h5 k (by omega)).2]; rfl
      · right; exact hx) l.length
    refine ⟨(p.1, p.2, true), K1 + K2 + K3 + K4 + K5 + K6 + K7 + K8 + K9 + l.length + 9, fun k hk => ?_⟩
    obtain ⟨j, rfl⟩ : ∃ j, k = j + 1 := ⟨k - 1, by omega⟩
    have x1 := hS j 0 0 (by omega) (by omega) (by omega) (by simp)
    have x2 := hI j 0 0 (by omega) (by omega) (by omega) (by simp)
    simp only [Int.natCast_zero] at x1 x2
    have e : ((l.length : Int) != (r.length : Int)) = false := by simp [he]
    simp (maxSteps := 2000000) (disch := omega) only [spec_ChanceTogether.f, impl_ChanceTogether.f, spec_ChanceTogether.j0, impl_ChanceTogether.j0, h1, h2, h3, h4, hf, hf', e, Option.bind_some, if_true, Bool.false_eq_true, if_false, x1, x2, and_self]
  · refine ⟨(0, 0, false), K1 + K2 + K3 + K4 + 9, fun k hk => ?_⟩
    obtain ⟨j, rfl⟩ : ∃ j, k = j + 1 := ⟨k - 1, by omega⟩
    simp (maxSteps := 2000000) (disch := omega) only [spec_ChanceTogether.f, impl_ChanceTogether.f, spec_ChanceTogether.j0, impl_ChanceTogether.j0, h1, h2, h3, h4, Option.bind_some]
    cases hf : fewB l with
    | false => simp
    | true =>
      cases hf' : fewB r with
      | false => simp
      | true =>
        have e : ((l.length : Int) != (r.length : Int)) = true := by
          simp
          intro hh
          exact hc ⟨hf, hf', by omega⟩
        simp [e]

end Go.Proofs.Ytdlififooknddaa.Pure
