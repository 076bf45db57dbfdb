/- Plain lemmas over the printed functions of this seat. -/
import Derived.Test.YtjldifjfgeifcaaY12
import Derived.Test.YtjldifjfgeifcaaPx11
set_option linter.unusedVariables false
set_option linter.unusedSimpArgs false
namespace Go.Proofs.Ytjldifjfgeifcaa.Pure
open Go.RowKit Go.Proofs.Ytjldifjfgeifcaa.P Go.Proofs.YtjldifjfgeifcaaW.PrintWords Go.Proofs.YtjldifjfgeifcaaW.PrintLast Go.Proofs.YtjldifjfgeifcaaW.PrintMore

/-! ### draws -/
/-- Is a draw one of these socks? -/
def isB (l d : List Int) : Bool := decide (d.length = l.length) && (d.zip l).all fun p => decide (0 ≤ p.1) && decide (p.1 ≤ p.2)
theorem IsDraw_l (l d : List Int) (hl : d.length ≤ 1048576) (he : d.length = l.length) : ∀ (n k i : Nat), d.length - i = n → i ≤ d.length → n < k →
    impl_IsDraw.l0 k l d d.length i = some (((d.zip l).drop i).all fun p => decide (0 ≤ p.1) && decide (p.1 ≤ p.2), true) := by
  have hz : (d.zip l).length = d.length := by rw [List.length_zip]; omega
  intro n
  induction n with
  | zero =>
    intro k i hd hle hk
    obtain ⟨m, rfl⟩ : ∃ m, k = m + 1 := ⟨k - 1, by omega⟩
    obtain rfl : i = d.length := by omega
    simp only [impl_IsDraw.l0]
    rw [if_neg (by omega), List.drop_eq_nil_of_le (by omega)]
    rfl
  | succ n ih =>
    intro k i hd hle hk
    obtain ⟨m, rfl⟩ : ∃ m, k = m + 1 := ⟨k - 1, by omega⟩
    have hlt : i < d.length := by omega
    simp only [impl_IsDraw.l0]
    rw [if_pos (by omega), if_pos (by omega), if_pos (by omega), if_pos (by omega), within_eq, Option.bind_some, wrap_succ hlt (by omega), ih m (i + 1) (by omega) (by omega) (by omega), List.drop_eq_getElem_cons (by omega : i < (d.zip l).length), rd_at d i hlt, rd_at l i (by omega)]
    simp only [List.all_cons, List.getElem_zip]
    generalize (decide (0 ≤ d[i]) && decide (d[i] ≤ l[i])) = b
    cases b <;> simp
theorem IsDrawI_ev (l d : List Int) (hl : l.length ≤ 1048576) (hd : d.length ≤ 1048576) : ∃ K, ∀ k, K ≤ k → impl_IsDraw.f k l d = some (if goodB l = true then (isB l d, true) else (false, false)) := by
  obtain ⟨K, h⟩ := AreSocks_ev l (by omega)
  refine ⟨K + d.length + 1, fun k hk => ?_⟩
  simp (disch := omega) only [impl_IsDraw.f, h, Option.bind_some]
  cases hg : goodB l with
  | false => simp
  | true =>
    rw [if_pos rfl, if_pos rfl]
    unfold isB
    by_cases he : d.length = l.length
    · rw [if_pos (by omega)]
      have h := IsDraw_l l d hd he d.length k 0 (by omega) (by omega) (by omega)
      simpa [he] using h
    · rw [if_neg (by omega)]
      simp [he]

/-! ### the most socks with at most q pairs, in a closed form -/
def cA : List Int → Int
  | [] => 0
  | n :: l => (if n > 0 then 1 else 0) + cA l
def cP : List Int → Int
  | [] => 0
  | n :: l => (if n > 0 then (n - 1) / 2 else 0) + cP l
def cT : List Int → Int
  | [] => 0
  | n :: l => (if n > 0 then (n + 1) % 2 else 0) + cT l
theorem c_nonneg : ∀ l : List Int, (∀ x ∈ l, 0 ≤ x ∧ x ≤ 20) → 0 ≤ cA l ∧ cA l ≤ l.length ∧ 0 ≤ cP l ∧ cP l ≤ 10 * l.length ∧ 0 ≤ cT l ∧ cT l ≤ l.length := by
  intro l
  induction l with
  | nil => intro _; simp [cA, cP, cT]
  | cons n l ih =>
    intro h
    have := ih (fun x hx => h x (by simp [hx]))
    have hn := h n (by simp)
    simp only [cA, cP, cT, List.length_cons]
    split <;> omega
theorem best_up (n A P T q c : Int) (hA : 0 ≤ A) (hP : 0 ≤ P) (hT : 0 ≤ T) (hn : 0 < n) (h0 : 0 ≤ c) (h1 : c ≤ n) (h2 : c / 2 ≤ q) : c + (A + 2 * min (q - c / 2) P + min (max (q - c / 2 - P) 0) T) ≤ 1 + A + 2 * min q ((n - 1) / 2 + P) + min (max (q - ((n - 1) / 2 + P)) 0) ((n + 1) % 2 + T) := by omega
theorem best_dn (n A P T q v : Int) (hA : 0 ≤ A) (hP : 0 ≤ P) (hT : 0 ≤ T) (hn : 0 < n) (hq : 0 ≤ q)
    (h1 : 2 * min ((n - 1) / 2) q + 1 + (A + 2 * min (q - min ((n - 1) / 2) q) P + min (max (q - min ((n - 1) / 2) q - P) 0) T) ≤ v)
    (h2 : n / 2 ≤ q → n + (A + 2 * min (q - n / 2) P + min (max (q - n / 2 - P) 0) T) ≤ v) : 1 + A + 2 * min q ((n - 1) / 2 + P) + min (max (q - ((n - 1) / 2 + P)) 0) ((n + 1) % 2 + T) ≤ v := by
  by_cases h : n / 2 ≤ q
  · have := h2 h; omega
  · omega
theorem W_closed : ∀ l : List Int, l.length ≤ 1000 → (∀ x ∈ l, 0 ≤ x ∧ x ≤ 20) → ∀ q : Nat, W l q = cA l + 2 * min (q : Int) (cP l) + min (max ((q : Int) - cP l) 0) (cT l) := by
  intro l
  induction l with
  | nil => intro _ _ q; simp only [W, cA, cP, cT]; omega
  | cons n l ih =>
    intro hl hx q
    have hx' : ∀ x ∈ l, 0 ≤ x ∧ x ≤ 20 := fun x h => hx x (by simp [h])
    simp only [List.length_cons] at hl
    have hn := hx n (by simp)
    have hW := W_prop l (by omega) hx'
    obtain ⟨c1, c2, c3, c4, c5, c6⟩ := c_nonneg l hx'
    have ih := ih (by omega) hx'
    obtain ⟨i1, i2, i3, i4⟩ := inner_prop (W l) n q (20 * l.length) (by omega) (fun j => ⟨(hW j).1, (hW j).2.1⟩) hn.2 22 0 0 (by omega) (by omega) (by omega) (by omega)
    have eW : W (n :: l) q = inner (W l) n q 22 0 0 := rfl
    rw [eW]
    generalize inner (W l) n q 22 0 0 = v at *
    have h0 := i4 0 (by omega) (by omega) (by omega)
    have at' : ∃ c' : Nat, (c' : Int) ≤ n ∧ c' / 2 ≤ q ∧ v = c' + W l (q - c' / 2) := by
      rcases i3 with i3 | i3
      · refine ⟨0, by omega, by omega, ?_⟩
        have := (hW (q - 0 / 2)).1
        omega
      · exact i3
    simp only [cA, cP, cT]
    generalize cA l = A at *
    generalize cP l = P at *
    generalize cT l = T at *
    obtain ⟨c, a, b, d⟩ := at'
    have e1 := ih (q - c / 2)
    have e2 : ((q - c / 2 : Nat) : Int) = (q : Int) - (c : Int) / 2 := by omega
    rw [e2] at e1
    rw [e1] at d
    by_cases n0 : n > 0
    · rw [if_pos n0, if_pos n0, if_pos n0]
      apply Int.le_antisymm
      · rw [d]; exact best_up n A P T q c c1 c3 c5 n0 (by omega) a (by omega)
      · refine best_dn n A P T q v c1 c3 c5 n0 (by omega) ?_ ?_
        · have g := i4 (2 * min ((n - 1) / 2).toNat q + 1) (by omega) (by omega) (by omega)
          rw [ih] at g
          have e3 : ((q - (2 * min ((n - 1) / 2).toNat q + 1) / 2 : Nat) : Int) = (q : Int) - min ((n - 1) / 2) q := by omega
          have e4 : ((2 * min ((n - 1) / 2).toNat q + 1 : Nat) : Int) = 2 * min ((n - 1) / 2) q + 1 := by omega
          rw [e3, e4] at g
          exact g
        · intro hq
          have g := i4 n.toNat (by omega) (by omega) (by omega)
          rw [ih] at g
          have e3 : ((q - n.toNat / 2 : Nat) : Int) = (q : Int) - n / 2 := by omega
          have e4 : ((n.toNat : Nat) : Int) = n := by omega
          rw [e3, e4] at g
          exact g
    · rw [if_neg n0, if_neg n0, if_neg n0]
      have : c = 0 := by omega
      subst this
      rw [d]; simp
theorem draw_ch : ∀ (l d : List Int), isB l d = true → (∀ x ∈ l, x ≤ 20) → Ch l (prs d).toNat d.sum ∧ 0 ≤ prs d ∧ (∀ x ∈ d, 0 ≤ x ∧ x ≤ 20) := by
  intro l
  induction l with
  | nil =>
    intro d h _
    simp only [isB, Bool.and_eq_true, decide_eq_true_eq] at h
    have : d = [] := List.length_eq_zero_iff.1 (by simpa using h.1)
    subst this
    exact ⟨⟨by simp [prs], by simp⟩, by simp [prs], by simp⟩
  | cons n l ih =>
    intro d h hx
    cases d with
    | nil => simp [isB] at h
    | cons c d =>
      simp only [isB, Bool.and_eq_true, decide_eq_true_eq, List.length_cons, List.zip_cons_cons, List.all_cons] at h
      obtain ⟨h1, ⟨h2, h3⟩, h4⟩ := h
      obtain ⟨i1, i2, i3⟩ := ih d (by simp only [isB, Bool.and_eq_true, decide_eq_true_eq]; exact ⟨by omega, h4⟩) (fun x h => hx x (by simp [h]))
      have hn := hx n (by simp)
      have ep : prs (c :: d) = c / 2 + prs d := by simp [prs]
      refine ⟨⟨c.toNat, by omega, by rw [ep]; omega, ?_⟩, by rw [ep]; omega, ?_⟩
      · rw [ep, List.sum_cons, show (c / 2 + prs d).toNat - c.toNat / 2 = (prs d).toNat by omega, show c + d.sum - ((c.toNat : Nat) : Int) = d.sum by omega]; exact i1
      · intro x hx'
        rcases List.mem_cons.1 hx' with rfl | hx'
        · omega
        · exact i3 x hx'

end Go.Proofs.Ytjldifjfgeifcaa.Pure
