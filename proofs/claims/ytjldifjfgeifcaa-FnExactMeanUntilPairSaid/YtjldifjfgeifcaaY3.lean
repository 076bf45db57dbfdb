/- Plain lemmas over the printed functions of this seat. -/
import Derived.Test.YtjldifjfgeifcaaY0
import Derived.Test.YtjldifjfgeifcaaPx8
set_option linter.unusedVariables false
set_option linter.unusedSimpArgs false
namespace Go.Proofs.Ytjldifjfgeifcaa.Pure
open Go.RowKit Go.Proofs.Ytjldifjfgeifcaa.P Go.Proofs.YtjldifjfgeifcaaW.PrintWords Go.Proofs.YtjldifjfgeifcaaW.PrintLast Go.Proofs.YtjldifjfgeifcaaW.PrintMore

/-! ### choices: a table of the two ways to reckon them -/
def chk (n k : Nat) : Bool :=
  match spec_chChoose.f 60 n k, impl_choose.f 60 n k with
  | some a, some b => decide (a = b) && decide (1 ≤ a) && decide (a ≤ 2 ^ n)
  | _, _ => false
set_option maxRecDepth 100000 in
theorem chk_all : ((List.range 41).all fun n => (List.range (n + 1)).all fun k => chk n k) = true := by decide +kernel
theorem choose_ev (n k : Int) (h0 : 0 ≤ n) (h1 : n ≤ 40) : ∃ v, 0 ≤ v ∧ v ≤ 2 ^ n.toNat ∧ (k < 0 → v = 0) ∧ (n < k → v = 0) ∧ (0 ≤ k → k ≤ n → 1 ≤ v) ∧ ∀ m, 60 ≤ m → spec_chChoose.f m n k = some v ∧ impl_choose.f m n k = some v := by
  by_cases hk : 0 ≤ k ∧ k ≤ n
  · obtain ⟨i, rfl⟩ := Int.eq_ofNat_of_zero_le h0
    obtain ⟨j, rfl⟩ := Int.eq_ofNat_of_zero_le hk.1
    have h := List.all_eq_true.1 (List.all_eq_true.1 chk_all i (List.mem_range.2 (by omega))) j (List.mem_range.2 (by omega))
    unfold chk at h
    cases hs : spec_chChoose.f 60 (i : Int) (j : Int) with
    | none => rw [hs] at h; simp at h
    | some a =>
      cases hi : impl_choose.f 60 (i : Int) (j : Int) with
      | none => rw [hs, hi] at h; simp at h
      | some b =>
        rw [hs, hi] at h
        simp only [Bool.and_eq_true, decide_eq_true_eq] at h
        obtain ⟨⟨rfl, h2⟩, h3⟩ := h
        refine ⟨a, by omega, by simpa using h3, fun hh => by omega, fun hh => by omega, fun _ _ => h2, fun m hm => ⟨at_rounds (fun k => spec_chChoose.mono _ _ k) hm hs, at_rounds (fun k => impl_choose.mono _ _ k) hm hi⟩⟩
  · refine ⟨0, Int.le_refl _, Int.pow_nonneg (by omega), fun _ => rfl, fun _ => rfl, fun a b => absurd ⟨a, b⟩ hk, fun m hm => ?_⟩
    obtain ⟨q, rfl⟩ : ∃ q, m = q + 1 := ⟨m - 1, by omega⟩
    have e : (decide (0 ≤ k) && decide (k ≤ n)) = false := by simp; omega
    constructor
    · simp only [spec_chChoose.f, spec_chChoose.j0]
      by_cases hn : k < 0
      · rw [if_pos hn]; rfl
      · rw [if_neg hn, decide_eq_true (show k > n by omega)]; rfl
    · simp only [impl_choose.f, within_eq, e, Option.bind_some]; rfl

theorem pow2_mono {a b : Nat} (h : a ≤ b) : (2 : Int) ^ a ≤ 2 ^ b := by
  have := Nat.pow_le_pow_right (show 0 < 2 by omega) h
  have h2 : ((2 ^ a : Nat) : Int) ≤ ((2 ^ b : Nat) : Int) := by omega
  simpa using h2

end Go.Proofs.Ytjldifjfgeifcaa.Pure
