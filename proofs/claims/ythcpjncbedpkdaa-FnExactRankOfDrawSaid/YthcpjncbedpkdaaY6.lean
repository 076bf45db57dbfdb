/- Plain lemmas over the printed functions of this seat. -/
import Derived.Test.YthcpjncbedpkdaaY3
import Derived.Test.YthcpjncbedpkdaaPx8
set_option linter.unusedVariables false
set_option linter.unusedSimpArgs false
namespace Go.Proofs.Ythcpjncbedpkdaa.Pure
open Go.RowKit Go.Proofs.Ythcpjncbedpkdaa.P Go.Proofs.YthcpjncbedpkdaaW.PrintWords Go.Proofs.YthcpjncbedpkdaaW.PrintLast Go.Proofs.YthcpjncbedpkdaaW.PrintMore

/-! ### draws -/
/-- Is a draw one of these socks? -/
def isB (l d : List Int) : Bool := decide (d.length = l.length) && (d.zip l).all fun p => decide (0 ≤ p.1) && decide (p.1 ≤ p.2)
theorem soIs_l (l d : List Int) (hl : d.length ≤ 1048576) (he : d.length = l.length) : ∀ (n k i : Nat), d.length - i = n → i ≤ d.length → n < k →
    spec_soIs.l0 k l d d.length i = some (((d.zip l).drop i).all fun p => decide (0 ≤ p.1) && decide (p.1 ≤ p.2)) := by
  have hz : (d.zip l).length = d.length := by rw [List.length_zip]; omega
  intro n
  induction n with
  | zero =>
    intro k i hd hle hk
    obtain ⟨m, rfl⟩ : ∃ m, k = m + 1 := ⟨k - 1, by omega⟩
    obtain rfl : i = d.length := by omega
    simp only [spec_soIs.l0]
    rw [if_neg (by omega), List.drop_eq_nil_of_le (by omega)]
    rfl
  | succ n ih =>
    intro k i hd hle hk
    obtain ⟨m, rfl⟩ : ∃ m, k = m + 1 := ⟨k - 1, by omega⟩
    have hlt : i < d.length := by omega
    simp only [spec_soIs.l0]
    rw [if_pos (by omega), if_pos (by omega), if_pos (by omega), if_pos (by omega), l1In_eq, Option.bind_some, wrap_succ hlt (by omega), ih m (i + 1) (by omega) (by omega) (by omega), List.drop_eq_getElem_cons (by omega : i < (d.zip l).length), rd_at d i hlt, rd_at l i (by omega)]
    simp only [List.all_cons, List.getElem_zip]
    generalize (decide (0 ≤ d[i]) && decide (d[i] ≤ l[i])) = b
    cases b <;> simp
theorem soIs_ev (l d : List Int) (hl : d.length ≤ 1048576) : ∃ K, ∀ k, K ≤ k → spec_soIs.f k l d = some (isB l d) := by
  refine ⟨d.length + 1, fun k hk => ?_⟩
  unfold spec_soIs.f isB
  by_cases he : d.length = l.length
  · rw [if_pos (by omega)]
    have h := soIs_l l d hl he d.length k 0 (by omega) (by omega) (by omega)
    simpa [he] using h
  · rw [if_neg (by omega)]
    simp [he]
theorem IsDraw_l (l d : List Int) (hl : d.length ≤ 1048576) (he : d.length = l.length) : ∀ (n k i : Nat), d.length - i = n → i ≤ d.length → n < k →
    impl_IsDraw.l0 k l d d.length i = some (((d.zip l).drop i).all fun p => decide (0 ≤ p.1) && decide (p.1 ≤ p.2), true) := by
  have hz : (d.zip l).length = d.length := by rw [List.length_zip]; omega
  intro n
  induction n with
  | zero =>
    intro k i hd hle hk
    obtain ⟨m, rfl⟩ : ∃ m, k = m + 1 := ⟨k - 1, by omega⟩
    obtain rfl : i = d.length := by omega
    simp only [impl_IsDraw.l0]
    rw [if_neg (by omega), List.drop_eq_nil_of_le (by omega)]
    rfl
  | succ n ih =>
    intro k i hd hle hk
    obtain ⟨m, rfl⟩ : ∃ m, k = m + 1 := ⟨k - 1, by omega⟩
    have hlt : i < d.length := by omega
    simp only [impl_IsDraw.l0]
    rw [if_pos (by omega), if_pos (by omega), if_pos (by omega), if_pos (by omega), within_eq, Option.bind_some, wrap_succ hlt (by omega), ih m (i + 1) (by omega) (by omega) (by omega), List.drop_eq_getElem_cons (by omega : i < (d.zip l).length), rd_at d i hlt, rd_at l i (by omega)]
    simp only [List.all_cons, List.getElem_zip]
    generalize (decide (0 ≤ d[i]) && decide (d[i] ≤ l[i])) = b
    cases b <;> simp
theorem IsDrawI_ev (l d : List Int) (hl : l.length ≤ 1048576) (hd : d.length ≤ 1048576) : ∃ K, ∀ k, K ≤ k → impl_IsDraw.f k l d = some (if goodB l = true then (isB l d, true) else (false, false)) := by
  obtain ⟨K, h⟩ := AreSocks_ev l (by omega)
  refine ⟨K + d.length + 1, fun k hk => ?_⟩
  simp (disch := omega) only [impl_IsDraw.f, h, Option.bind_some]
  cases hg : goodB l with
  | false => simp
  | true =>
    rw [if_pos rfl, if_pos rfl]
    unfold isB
    by_cases he : d.length = l.length
    · rw [if_pos (by omega)]
      have h := IsDraw_l l d hd he d.length k 0 (by omega) (by omega) (by omega)
      simpa [he] using h
    · rw [if_neg (by omega)]
      simp [he]

theorem soBoth_ev (l d : List Int) (hl : l.length ≤ 1048576) (hd : d.length ≤ 1048576) : ∃ K, ∀ k, K ≤ k → spec_soBoth.f k l d = some (goodB l && isB l d) := by
  obtain ⟨K1, h1⟩ := soGood_ev l (by omega)
  obtain ⟨K2, h2⟩ := soIs_ev l d hd
  refine ⟨K1 + K2, fun k hk => ?_⟩
  simp (disch := omega) only [spec_soBoth.f, h1, h2, Option.bind_some]
  cases goodB l <;> simp

theorem isDrawB_ev (l d : List Int) (hl : l.length ≤ 1048576) (hd : d.length ≤ 1048576) : ∃ K, ∀ k, K ≤ k → impl_isDraw.f k l d = some (goodB l && isB l d) := by
  obtain ⟨K3, h3⟩ := IsDrawI_ev l d hl hd
  refine ⟨K3, fun k hk => ?_⟩
  simp (disch := omega) only [impl_isDraw.f, h3, Option.bind_some]
  cases goodB l <;> simp

end Go.Proofs.Ythcpjncbedpkdaa.Pure
