/- Plain lemmas over the printed functions of this seat. -/
import Derived.Test.YtmgajkllkmmbgaaY0
import Derived.Test.YtmgajkllkmmbgaaPx17
set_option linter.unusedVariables false
set_option linter.unusedSimpArgs false
namespace Go.Proofs.Ytmgajkllkmmbgaa.Pure
open Go.RowKit Go.Proofs.Ytmgajkllkmmbgaa.P Go.Proofs.YtmgajkllkmmbgaaW.PrintWords Go.Proofs.YtmgajkllkmmbgaaW.PrintLast Go.Proofs.YtmgajkllkmmbgaaW.PrintMore

/-! ### socks together -/
def addW (a b : List Int) : List Int := List.zipWith (fun x y => wrap64 (x + y)) a b
theorem addW_length (a b : List Int) (h : a.length = b.length) : (addW a b).length = a.length := by simp [addW]; omega
theorem addW_take (a b : List Int) (h : a.length = b.length) (i : Nat) (hi : i < a.length) : (addW a b).take i ++ [wrap64 (rd a i + rd b i)] = (addW a b).take (i + 1) := by
  rw [List.take_succ_eq_append_getElem (by rw [addW_length a b h]; exact hi), rd_at a i hi, rd_at b i (by omega)]
  simp [addW]
theorem AddS_l (a b : List Int) (hl : a.length ≤ 1048576) (he : a.length = b.length) (K : Nat) (hK : ∀ k, K ≤ k → spec_soGood.f k (addW a b) = some (goodB (addW a b))) : ∀ (n k i : Nat), a.length - i = n → i ≤ a.length → n + K < k →
    spec_AddSocks.l0 k b ((addW a b).take i) a a.length i = some (if goodB (addW a b) = true then (addW a b, true) else ([], false)) := by
  intro n
  induction n with
  | zero =>
    intro k i hd hle hk
    obtain ⟨m, rfl⟩ : ∃ m, k = m + 1 := ⟨k - 1, by omega⟩
    obtain rfl : i = a.length := by omega
    simp only [spec_AddSocks.l0]
    rw [if_neg (by omega), List.take_of_length_le (by rw [addW_length a b he]; exact Nat.le_refl _), hK m (by omega), Option.bind_some]
    cases goodB (addW a b) <;> rfl
  | succ n ih =>
    intro k i hd hle hk
    obtain ⟨m, rfl⟩ : ∃ m, k = m + 1 := ⟨k - 1, by omega⟩
    have hlt : i < a.length := by omega
    simp only [spec_AddSocks.l0]
    rw [if_pos (by omega), if_pos (by omega), if_pos (by omega), if_pos (by omega), if_pos (by simp; omega), addW_take a b he i hlt, wrap_succ hlt (by omega)]
    exact ih m (i + 1) (by omega) (by omega) (by omega)
theorem AddI_l (a b : List Int) (hl : a.length ≤ 1048576) (he : a.length = b.length) (K : Nat) (hK : ∀ k, K ≤ k → impl_AreSocks.f k (addW a b) = some (goodB (addW a b))) : ∀ (n k i : Nat), a.length - i = n → i ≤ a.length → n + K < k →
    impl_AddSocks.l0 k a b ((addW a b).take i) a.length i = some (if goodB (addW a b) = true then (addW a b, true) else ([], false)) := by
  intro n
  induction n with
  | zero =>
    intro k i hd hle hk
    obtain ⟨m, rfl⟩ : ∃ m, k = m + 1 := ⟨k - 1, by omega⟩
    obtain rfl : i = a.length := by omega
    simp only [impl_AddSocks.l0]
    rw [if_neg (by omega), List.take_of_length_le (by rw [addW_length a b he]; exact Nat.le_refl _), hK m (by omega), Option.bind_some]
    cases goodB (addW a b) <;> rfl
  | succ n ih =>
    intro k i hd hle hk
    obtain ⟨m, rfl⟩ : ∃ m, k = m + 1 := ⟨k - 1, by omega⟩
    have hlt : i < a.length := by omega
    simp only [impl_AddSocks.l0]
    rw [if_pos (by omega), if_pos (by omega), if_pos (by omega), if_pos (by omega), if_pos (by simp; omega), addW_take a b he i hlt, wrap_succ hlt (by omega)]
    exact ih m (i + 1) (by omega) (by omega) (by omega)
theorem AddSocks_ev (a b : List Int) (hla : a.length ≤ 1048576) (hlb : b.length ≤ 1048576) : ∃ r K, r.1.length ≤ 1048576 ∧ ∀ k, K ≤ k → spec_AddSocks.f k a b = some r ∧ impl_AddSocks.f k a b = some r := by
  obtain ⟨K1, h1⟩ := soGood_ev a (by omega)
  obtain ⟨K2, h2⟩ := soGood_ev b (by omega)
  obtain ⟨K3, h3⟩ := AreSocks_ev a (by omega)
  obtain ⟨K4, h4⟩ := AreSocks_ev b (by omega)
  by_cases he : a.length = b.length
  · have hF : (addW a b).length ≤ 1048576 := by rw [addW_length a b he]; exact hla
    obtain ⟨K5, h5⟩ := soGood_ev (addW a b) (by omega)
    obtain ⟨K6, h6⟩ := AreSocks_ev (addW a b) (by omega)
    refine ⟨if goodB a = true ∧ goodB b = true ∧ goodB (addW a b) = true then (addW a b, true) else ([], false), K1 + K2 + K3 + K4 + K5 + K6 + a.length + 20, ?_, fun k hk => ?_⟩
    · by_cases hc : goodB a = true ∧ goodB b = true ∧ goodB (addW a b) = true
      · rw [if_pos hc]; exact hF
      · rw [if_neg hc]; simp
    · obtain ⟨m, rfl⟩ : ∃ m, k = m + 1 := ⟨k - 1, by omega⟩
      have e : ((a.length : Int) != (b.length : Int)) = false := by simp [he]
      have hs := AddS_l a b hla he K5 h5 a.length m 0 (by omega) (by omega) (by omega)
      have hi := AddI_l a b hla he K6 h6 a.length m 0 (by omega) (by omega) (by omega)
      simp only [List.take_zero, Int.natCast_zero] at hs hi
      simp (disch := omega) only [spec_AddSocks.f, spec_AddSocks.j0, impl_AddSocks.f, impl_AddSocks.j0, h1, h2, h3, h4, e, hs, hi, Option.bind_some]
      cases goodB a <;> cases goodB b <;> cases goodB (addW a b) <;> simp
  · refine ⟨([], false), K1 + K2 + K3 + K4 + 20, by simp, fun k hk => ?_⟩
    obtain ⟨m, rfl⟩ : ∃ m, k = m + 1 := ⟨k - 1, by omega⟩
    have e : ((a.length : Int) != (b.length : Int)) = true := by simp; omega
    simp (disch := omega) only [spec_AddSocks.f, spec_AddSocks.j0, impl_AddSocks.f, impl_AddSocks.j0, h1, h2, h3, h4, e, Option.bind_some]
    cases goodB a <;> cases goodB b <;> simp

end Go.Proofs.Ytmgajkllkmmbgaa.Pure
