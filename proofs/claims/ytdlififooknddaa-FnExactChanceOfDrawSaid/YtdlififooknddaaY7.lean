/- Plain lemmas over the printed functions of this seat. -/
import Derived.Test.YtdlififooknddaaY3
import Derived.Test.YtdlififooknddaaY4
import Derived.Test.YtdlififooknddaaPx9
import Derived.Test.YtdlififooknddaaPx19
import Derived.Test.YtdlififooknddaaPx20
set_option linter.unusedVariables false
set_option linter.unusedSimpArgs false
namespace Go.Proofs.Ytdlififooknddaa.Pure
open Go.RowKit Go.Proofs.Ytdlififooknddaa.P Go.Proofs.YtdlififooknddaaW.PrintWords Go.Proofs.YtdlififooknddaaW.PrintLast Go.Proofs.YtdlififooknddaaW.PrintMore

/-! ### draws -/
/-- Is a draw one of these socks? -/
def isB (l d : List Int) : Bool := decide (d.length = l.length) && (d.zip l).all fun p => decide (0 ≤ p.1) && decide (p.1 ≤ p.2)
theorem soIs_l (l d : List Int) (hl : d.length ≤ 1048576) (he : d.length = l.length) : ∀ (n k i : Nat), d.length - i = n → i ≤ d.length → n < k →
    spec_soIs.l0 k l d d.length i = some (((d.zip l).drop i).all fun p => decide (0 ≤ p.1) && decide (p.1 ≤ p.2)) := by
  have hz : (d.zip l).length = d.length := by rw [List.length_zip]; omega
  intro n
  induction n with
  | zero =>
    intro k i hd hle hk
    obtain ⟨m, rfl⟩ : ∃ m, k = m + 1 := ⟨k - 1, by omega⟩
    obtain rfl : i = d.length := by omega
    simp only [spec_soIs.l0]
    rw [if_neg (by omega), List.drop_eq_nil_of_le (by omega)]
    rfl
  | succ n ih =>
    intro k i hd hle hk
    obtain ⟨m, rfl⟩ : ∃ m, k = m + 1 := ⟨k - 1, by omega⟩
    have hlt : i < d.length := by omega
    simp only [spec_soIs.l0]
    rw [if_pos (by omega), if_pos (by omega), if_pos (by omega), if_pos (by omega), l1In_eq, Option.bind_some, wrap_succ hlt (by omega), ih m (i + 1) (by omega) (by omega) (by omega), List.drop_eq_getElem_cons (by omega : i < (d.zip l).length), rd_at d i hlt, rd_at l i (by omega)]
    simp only [List.all_cons, List.getElem_zip]
    generalize (decide (0 ≤ d[i]) && decide (d[i] ≤ l[i])) = b
    cases b <;> simp
theorem soIs_ev (l d : List Int) (hl : d.length ≤ 1048576) : ∃ K, ∀ k, K ≤ k → spec_soIs.f k l d = some (isB l d) := by
  refine ⟨d.length + 1, fun k hk => ?_⟩
  unfold spec_soIs.f isB
  by_cases he : d.length = l.length
  · rw [if_pos (by omega)]
    have h := soIs_l l d hl he d.length k 0 (by omega) (by omega) (by omega)
    simpa [he] using h
  · rw [if_neg (by omega)]
    simp [he]
theorem IsDraw_l (l d : List Int) (hl : d.length ≤ 1048576) (he : d.length = l.length) : ∀ (n k i : Nat), d.length - i = n → i ≤ d.length → n < k →
    impl_IsDraw.l0 k l d d.length i = some (((d.zip l).drop i).all fun p => decide (0 ≤ p.1) && decide (p.1 ≤ p.2), true) := by
  have hz : (d.zip l).length = d.length := by rw [List.length_zip]; omega
  intro n
  induction n with
  | zero =>
    intro k i hd hle hk
    obtain ⟨m, rfl⟩ : ∃ m, k = m + 1 := ⟨k - 1, by omega⟩
    obtain rfl : i = d.length := by omega
    simp only [impl_IsDraw.l0]
    rw [if_neg (by omega), List.drop_eq_nil_of_le (by omega)]
    rfl
  | succ n ih =>
    intro k i hd hle hk
    obtain ⟨m, rfl⟩ : ∃ m, k = m + 1 := ⟨k - 1, by omega⟩
    have hlt : i < d.length := by omega
    simp only [impl_IsDraw.l0]
    rw [if_pos (by omega), if_pos (by omega), if_pos (by omega), if_pos (by omega), within_eq, Option.bind_some, wrap_succ hlt (by omega), ih m (i + 1) (by omega) (by omega) (by omega), List.drop_eq_getElem_cons (by omega : i < (d.zip l).length), rd_at d i hlt, rd_at l i (by omega)]
    simp only [List.all_cons, List.getElem_zip]
    generalize (decide (0 ≤ d[i]) && decide (d[i] ≤ l[i])) = b
    cases b <;> simp
theorem IsDrawI_ev (l d : List Int) (hl : l.length ≤ 1048576) (hd : d.length ≤ 1048576) : ∃ K, ∀ k, K ≤ k → impl_IsDraw.f k l d = some (if goodB l = true then (isB l d, true) else (false, false)) := by
  obtain ⟨K, h⟩ := AreSocks_ev l (by omega)
  refine ⟨K + d.length + 1, fun k hk => ?_⟩
  simp (disch := omega) only [impl_IsDraw.f, h, Option.bind_some]
  cases hg : goodB l with
  | false => simp
  | true =>
    rw [if_pos rfl, if_pos rfl]
    unfold isB
    by_cases he : d.length = l.length
    · rw [if_pos (by omega)]
      have h := IsDraw_l l d hd he d.length k 0 (by omega) (by omega) (by omega)
      simpa [he] using h
    · rw [if_neg (by omega)]
      simp [he]

theorem isDrawB_ev (l d : List Int) (hl : l.length ≤ 1048576) (hd : d.length ≤ 1048576) : ∃ K, ∀ k, K ≤ k → impl_isDraw.f k l d = some (goodB l && isB l d) := by
  obtain ⟨K3, h3⟩ := IsDrawI_ev l d hl hd
  refine ⟨K3, fun k hk => ?_⟩
  simp (disch := omega) only [impl_isDraw.f, h3, Option.bind_some]
  cases goodB l <;> simp

/-! ### the next sock -/
def oddW (a : Int) : List Int → List Int → Int
  | x :: d, y :: l => oddW (if Int.tmod x 2 = 1 then wrap64 (a + wrap64 (y - x)) else a) d l
  | _, _ => a
theorem oddW_small : ∀ (d l : List Int) (a : Int), 0 ≤ a → d.length = l.length → (∀ x ∈ l, 0 ≤ x ∧ x ≤ 20) → ((d.zip l).all fun p => decide (0 ≤ p.1) && decide (p.1 ≤ p.2)) = true → a + 20 * l.length ≤ 1000000 → 0 ≤ oddW a d l ∧ oddW a d l ≤ a + 20 * l.length := by
  intro d
  induction d with
  | nil => intro l a h0 he _ _ _; cases l with | nil => simp [oddW]; exact h0 | cons y r => simp at he
  | cons x d ih =>
    intro l a h0 he h1 hz h3
    cases l with
    | nil => simp at he
    | cons y l =>
      have hy := h1 y (by simp)
      simp only [List.zip_cons_cons, List.all_cons, Bool.and_eq_true, decide_eq_true_eq] at hz
      obtain ⟨⟨hx0, hx1⟩, hz⟩ := hz
      simp only [List.length_cons] at h3 he ⊢
      simp only [oddW]
      rw [wrap_small (x := y - x) (by omega) (by omega), wrap_small (x := a + (y - x)) (by omega) (by omega)]
      by_cases ho : Int.tmod x 2 = 1
      · rw [if_pos ho]
        have := ih l (a + (y - x)) (by omega) (by omega) (fun z hz => h1 z (by simp [hz])) hz (by omega)
        omega
      · rw [if_neg ho]
        have := ih l a (by omega) (by omega) (fun z hz => h1 z (by simp [hz])) hz (by omega)
        omega
theorem NextS_l (l d : List Int) (hl : d.length ≤ 1048576) (he : d.length = l.length) (r : Int × Int × Bool) (K : Nat) (hK : ∀ k, K ≤ k → ((spec_soSum.f k l).bind fun t478 => ((spec_soSum.f k d).bind fun t479 => ((spec_chLow.f k (oddW 0 d l) (wrap64 (t478 - t479))).bind fun bt480 => (some (bt480.1, bt480.2, true))))) = some r) :
    ∀ (n k i : Nat) (a : Int), d.length - i = n → i ≤ d.length → n + K < k → oddW a (d.drop i) (l.drop i) = oddW 0 d l →
    spec_ChanceNextPair.l0 k l d a d d.length i = some r := by
  intro n
  induction n with
  | zero =>
    intro k i a hd hle hk hw
    obtain ⟨m, rfl⟩ : ∃ m, k = m + 1 := ⟨k - 1, by omega⟩
    obtain rfl : i = d.length := by omega
    rw [List.drop_length, he, List.drop_length] at hw
    simp only [oddW] at hw
    subst hw
    simp only [spec_ChanceNextPair.l0]
    rw [if_neg (by omega)]
    exact hK m (by omega)
  | succ n ih =>
    intro k i a hd hle hk hw
    obtain ⟨m, rfl⟩ : ∃ m, k = m + 1 := ⟨k - 1, by omega⟩
    have hlt : i < d.length := by omega
    rw [List.drop_eq_getElem_cons hlt, List.drop_eq_getElem_cons (by omega : i < l.length)] at hw
    simp only [oddW] at hw
    simp only [spec_ChanceNextPair.l0]
    rw [if_pos (by omega), if_pos (by omega), if_pos (by omega), rd_at d i hlt, rd_at l i (by omega), wrap_succ hlt (by omega)]
    by_cases ho : Int.tmod d[i] 2 = 1
    · rw [if_pos ho] at hw
      rw [if_pos ho, if_pos (by omega)]
      exact ih m (i + 1) _ (by omega) (by omega) (by omega) hw
    · rw [if_neg ho] at hw
      rw [if_neg ho]
      exact ih m (i + 1) _ (by omega) (by omega) (by omega) hw
theorem NextI_l (l d : List Int) (hl : d.length ≤ 1048576) (he : d.length = l.length) (r : Int × Int × Bool) (K : Nat) (hK : ∀ k, K ≤ k → ((impl_total.f k l).bind fun t494 => ((impl_total.f k d).bind fun t495 => ((impl_fraction.f k (oddW 0 d l) (wrap64 (t494 - t495))).bind fun bt496 => (some (bt496.1, bt496.2.1, bt496.2.2))))) = some r) :
    ∀ (n k i : Nat) (a : Int), d.length - i = n → i ≤ d.length → n + K < k → oddW a (d.drop i) (l.drop i) = oddW 0 d l →
    impl_ChanceNextPair.l0 k l d a d d.length i = some r := by
  intro n
  induction n with
  | zero =>
    intro k i a hd hle hk hw
    obtain ⟨m, rfl⟩ : ∃ m, k = m + 1 := ⟨k - 1, by omega⟩
    obtain rfl : i = d.length := by omega
    rw [List.drop_length, he, List.drop_length] at hw
    simp only [oddW] at hw
    subst hw
    simp only [impl_ChanceNextPair.l0]
    rw [if_neg (by omega)]
    exact hK m (by omega)
  | succ n ih =>
    intro k i a hd hle hk hw
    obtain ⟨m, rfl⟩ : ∃ m, k = m + 1 := ⟨k - 1, by omega⟩
    have hlt : i < d.length := by omega
    rw [List.drop_eq_getElem_cons hlt, List.drop_eq_getElem_cons (by omega : i < l.length)] at hw
    simp only [oddW] at hw
    simp only [impl_ChanceNextPair.l0]
    rw [if_pos (by omega), if_pos (by omega), if_pos (by omega), rd_at d i hlt, rd_at l i (by omega), wrap_succ hlt (by omega)]
    by_cases ho : Int.tmod d[i] 2 = 1
    · rw [if_pos ho] at hw
      rw [if_pos ho, if_pos (by omega)]
      exact ih m (i + 1) _ (by omega) (by omega) (by omega) hw
    · rw [if_neg ho] at hw
      rw [if_neg ho]
      exact ih m (i + 1) _ (by omega) (by omega) (by omega) hw
/-- What is known of a draw of few socks. -/
theorem draw_facts {l d : List Int} (hg : fewB l = true) (hb : isB l d = true) : d.length = l.length ∧ ((d.zip l).all fun p => decide (0 ≤ p.1) && decide (p.1 ≤ p.2)) = true ∧ (∀ x ∈ d, 0 ≤ x ∧ x ≤ 20) ∧ wsum 0 d = d.sum ∧ 0 ≤ d.sum ∧ d.sum ≤ l.sum := by
  obtain ⟨s1, s2, s3, s4, s5, s6⟩ := few_sum hg
  simp only [isB, Bool.and_eq_true, decide_eq_true_eq] at hb
  obtain ⟨he, hz⟩ := hb
  have key : ∀ (l d : List Int), d.length = l.length → (∀ x ∈ l, 0 ≤ x ∧ x ≤ 20) → ((d.zip l).all fun p => decide (0 ≤ p.1) && decide (p.1 ≤ p.2)) = true → (∀ x ∈ d, 0 ≤ x ∧ x ≤ 20) ∧ 0 ≤ d.sum ∧ d.sum ≤ l.sum := by
    intro l
    induction l with
    | nil => intro d hb _ _; cases d with | nil => simp | cons y b => simp at hb
    | cons y l ih =>
      intro d hb h6 hz
      cases d with
      | nil => simp at hb
      | cons x d =>
        have hy := h6 y (by simp)
        simp only [List.zip_cons_cons, List.all_cons, Bool.and_eq_true, decide_eq_true_eq] at hz
        obtain ⟨⟨hx0, hx1⟩, hz⟩ := hz
        obtain ⟨i1, i2, i3⟩ := ih d (by simpa using hb) (fun z hz => h6 z (by simp [hz])) hz
        refine ⟨fun z hz => ?_, ?_, ?_⟩
        · rcases List.mem_cons.1 hz with rfl | hz
          · omega
          · exact i1 z hz
        · rw [List.sum_cons]; omega
        · rw [List.sum_cons, List.sum_cons]; omega
  obtain ⟨k1, k2, k3⟩ := key l d he s6 hz
  exact ⟨he, hz, k1, good_sum d (by omega) (allIn_iff.2 k1), k2, k3⟩
theorem ChanceNextPair_ev (l d : List Int) (hl : l.length ≤ 1048576) (hd : d.length ≤ 1048576) : ∃ v K, ∀ k, K ≤ k → spec_ChanceNextPair.f k l d = some v ∧ impl_ChanceNextPair.f k l d = some v := by
  obtain ⟨K1, h1⟩ := chGood_ev l hl
  obtain ⟨K2, h2⟩ := soIs_ev l d hd
  obtain ⟨K3, h3⟩ := areFew_ev l hl
  obtain ⟨K4, h4⟩ := isDrawB_ev l d hl hd
  obtain ⟨K6, h6⟩ := soSum_ev l (by omega)
  obtain ⟨K7, h7⟩ := soSum_ev d (by omega)
  obtain ⟨K8, h8⟩ := total_ev l (by omega)
  obtain ⟨K9, h9⟩ := total_ev d (by omega)
  by_cases hc : fewB l = true ∧ isB l d = true
  · obtain ⟨hf, hb⟩ := hc
    have hg : goodB l = true := (fewB_iff.1 hf).1
    have hgb : (goodB l && isB l d) = true := by simp [hg, hb]
    obtain ⟨s1, s2, s3, s4, s5, s6⟩ := few_sum hf
    obtain ⟨he, hz, d1, d2, d3, d4⟩ := draw_facts hf hb
    by_cases hq : d.sum = l.sum
    · refine ⟨(0, 0, false), K1 + K2 + K3 + K4 + K6 + K7 + K8 + K9 + 9, fun k hk => ?_⟩
      obtain ⟨j, rfl⟩ : ∃ j, k = j + 1 := ⟨k - 1, by omega⟩
      have e : (d.sum == l.sum) = true := by simp [hq]
      simp (maxSteps := 2000000) (disch := omega) only [spec_ChanceNextPair.f, impl_ChanceNextPair.f, spec_ChanceNextPair.j0, impl_ChanceNextPair.j0, h1, h2, h3, h4, h6, h7, h8, h9, hf, hb, hg, Bool.and_self, s1, d2, e, Option.bind_some, if_true, and_self]
    · have ew : wrap64 (l.sum - d.sum) = l.sum - d.sum := wrap_small (by omega) (by omega)
      have ho := oddW_small d l 0 (by omega) he s6 hz (by omega)
      obtain ⟨p, K5, h5⟩ := low_ev (oddW 0 d l) (l.sum - d.sum) ho.1 (by omega) (by omega)
      have hS := NextS_l l d hd he (p.1, p.2, true) (K5 + K6 + K7) (fun k hk => by
        rw [h6 k (by omega), h7 k (by omega), Option.bind_some, Option.bind_some, s1, d2, ew, (h5 k (by omega)).1]; rfl) d.length
      have hI := NextI_l l d hd he (p.1, p.2, true) (K5 + K8 + K9) (fun k hk => by
        rw [h8 k (by omega), h9 k (by omega), Option.bind_some, Option.bind_some, s1, d2, ew, (h5 k (by omega)).2]; rfl) d.length
      refine ⟨(p.1, p.2, true), K1 + K2 + K3 + K4 + K5 + K6 + K7 + K8 + K9 + d.length + 9, fun k hk => ?_⟩
      obtain ⟨j, rfl⟩ : ∃ j, k = j + 1 := ⟨k - 1, by omega⟩
      have x1 := hS j 0 0 (by omega) (by omega) (by omega) (by simp)
      have x2 := hI j 0 0 (by omega) (by omega) (by omega) (by simp)
      simp only [Int.natCast_zero] at x1 x2
      have e : (d.sum == l.sum) = false := by simp [hq]
      simp (maxSteps := 2000000) (disch := omega) only [spec_ChanceNextPair.f, impl_ChanceNextPair.f, spec_ChanceNextPair.j0, impl_ChanceNextPair.j0, h1, h2, h3, h4, h6, h7, h8, h9, hf, hb, hg, Bool.and_self, s1, d2, e, x1, x2, Option.bind_some, if_true, Bool.false_eq_true, if_false, and_self]
  · refine ⟨(0, 0, false), K1 + K2 + K3 + K4 + K6 + K7 + K8 + K9 + 9, fun k hk => ?_⟩
    obtain ⟨j, rfl⟩ : ∃ j, k = j + 1 := ⟨k - 1, by omega⟩
    simp (maxSteps := 2000000) (disch := omega) only [spec_ChanceNextPair.f, impl_ChanceNextPair.f, spec_ChanceNextPair.j0, impl_ChanceNextPair.j0, h1, h2, h3, h4, Option.bind_some]
    cases hf : fewB l with
    | false => simp
    | true =>
      have hb : isB l d = false := by cases hb : isB l d with | false => rfl | true => exact absurd ⟨hf, hb⟩ hc
      simp [hb]

/-! ### the chance of a draw -/
/-- The product of the ways of each colour. -/
theorem Ways_l (l d : List Int) (hl : d.length ≤ 1048576) (he : d.length = l.length) (h6 : ∀ x ∈ l, 0 ≤ x ∧ x ≤ 20) (hs : 0 ≤ l.sum) (h40 : l.sum ≤ 40) :
    ∀ (n i : Nat) (a : Int), d.length - i = n → i ≤ d.length → 0 ≤ a → a ≤ 2 ^ ((l.take i).sum).toNat → 0 ≤ (l.take i).sum → (l.take i).sum + (l.drop i).sum = l.sum →
    ∃ v, 0 ≤ v ∧ v ≤ 2 ^ l.sum.toNat ∧ ∀ k, n + 60 < k → spec_chWays.l0 k l a d d.length i = some v ∧ impl_waysOfDraw.l0 k l a d d.length i = some v := by
  intro n
  induction n with
  | zero =>
    intro i a hd hle h0 h1 h2 h3
    obtain rfl : i = d.length := by omega
    refine ⟨a, h0, ?_, fun k hk => ?_⟩
    · rw [he, List.take_length] at h1; exact h1
    · obtain ⟨m, rfl⟩ : ∃ m, k = m + 1 := ⟨k - 1, by omega⟩
      simp only [spec_chWays.l0, impl_waysOfDraw.l0]
      rw [if_neg (by omega), if_neg (by omega)]
      exact ⟨rfl, rfl⟩
  | succ n ih =>
    intro i a hd hle h0 h1 h2 h3
    have hlt : i < d.length := by omega
    have hli : i < l.length := by omega
    have hx := h6 l[i] (List.getElem_mem hli)
    have hdr := (sum_bounds (l.drop (i + 1)) 20 (fun x hx => h6 x (List.mem_of_mem_drop hx))).1
    rw [List.drop_eq_getElem_cons hli, List.sum_cons] at h3
    have ht : (l.take (i + 1)).sum = (l.take i).sum + l[i] := by rw [List.take_succ_eq_append_getElem hli, List.sum_append]; simp
    obtain ⟨v, v0, v1, _, _, _, hv⟩ := choose_ev l[i] d[i] hx.1 (by omega)
    have hpow : (2 : Int) ^ ((l.take i).sum).toNat * 2 ^ (l[i]).toNat = 2 ^ ((l.take (i + 1)).sum).toNat := by
      rw [← Int.pow_add, ht, Int.toNat_add h2 hx.1]
    have hle2 : a * v ≤ 2 ^ ((l.take (i + 1)).sum).toNat := by
      rw [← hpow]
      exact Int.mul_le_mul h1 v1 v0 (Int.pow_nonneg (by omega))
    have hcap : (2 : Int) ^ ((l.take (i + 1)).sum).toNat ≤ 2 ^ 40 := pow2_mono (by omega)
    have hw : wrap64 (a * v) = a * v := wrap_small (by have := Int.mul_nonneg h0 v0; omega) (by omega)
    obtain ⟨u, u0, u1, hu⟩ := ih (i + 1) (a * v) (by omega) (by omega) (Int.mul_nonneg h0 v0) hle2 (by omega) (by omega)
    refine ⟨u, u0, u1, fun k hk => ?_⟩
    obtain ⟨m, rfl⟩ : ∃ m, k = m + 1 := ⟨k - 1, by omega⟩
    simp only [spec_chWays.l0, impl_waysOfDraw.l0]
    rw [if_pos (by omega), if_pos (by omega), if_pos (by omega), if_pos (by omega), if_pos (by omega), if_pos (by omega), if_pos (by omega), if_pos (by omega), rd_at d i hlt, rd_at l i hli, (hv m (by omega)).1, (hv m (by omega)).2, Option.bind_some, Option.bind_some, hw, wrap_succ hlt (by omega)]
    exact hu m (by omega)
theorem ChanceOfDraw_ev (l d : List Int) (hl : l.length ≤ 1048576) (hd : d.length ≤ 1048576) : ∃ v K, ∀ k, K ≤ k → spec_ChanceOfDraw.f k l d = some v ∧ impl_ChanceOfDraw.f k l d = some v := by
  obtain ⟨K1, h1⟩ := chGood_ev l hl
  obtain ⟨K2, h2⟩ := soIs_ev l d hd
  obtain ⟨K3, h3⟩ := areFew_ev l hl
  obtain ⟨K4, h4⟩ := isDrawB_ev l d hl hd
  obtain ⟨K6, h6⟩ := soSum_ev l (by omega)
  obtain ⟨K7, h7⟩ := soSum_ev d (by omega)
  obtain ⟨K8, h8⟩ := total_ev l (by omega)
  obtain ⟨K9, h9⟩ := total_ev d (by omega)
  by_cases hc : fewB l = true ∧ isB l d = true
  · obtain ⟨hf, hb⟩ := hc
    have hg : goodB l = true := (fewB_iff.1 hf).1
    have hgb : (goodB l && isB l d) = true := by simp [hg, hb]
    obtain ⟨s1, s2, s3, s4, s5, s6⟩ := few_sum hf
    obtain ⟨he, hz, d1, d2, d3, d4⟩ := draw_facts hf hb
    obtain ⟨u, u0, u1, hu⟩ := Ways_l l d hd he s6 (by omega) s3 d.length 0 1 (by omega) (by omega) (by omega) (by simp) (by simp) (by simp)
    obtain ⟨v, v0, v1, _, _, v2, hv⟩ := choose_ev l.sum d.sum (by omega) s3
    have hcap : (2 : Int) ^ (l.sum).toNat ≤ 2 ^ 40 := pow2_mono (by omega)
    obtain ⟨p, K5, h5⟩ := low_ev u v u0 (by have := v2 d3 d4; omega) (by omega)
    refine ⟨(p.1, p.2, true), K1 + K2 + K3 + K4 + K5 + K6 + K7 + K8 + K9 + d.length + 70, fun k hk => ?_⟩
    obtain ⟨j, rfl⟩ : ∃ j, k = j + 1 := ⟨k - 1, by omega⟩
    have x1 := (hu j (by omega)).1
    have x2 := (hu j (by omega)).2
    have y1 := (hv j (by omega)).1
    have y2 := (hv j (by omega)).2
    have z1 := (h5 j (by omega)).1
    have z2 := (h5 j (by omega)).2
    simp only [Int.natCast_zero] at x1 x2
    simp (maxSteps := 2000000) (disch := omega) only [spec_ChanceOfDraw.f, impl_ChanceOfDraw.f, spec_ChanceOfDraw.j0, impl_ChanceOfDraw.j0, spec_chWays.f, impl_waysOfDraw.f, h1, h2, h3, h4, h6, h7, h8, h9, hf, hb, hg, Bool.and_self, s1, d2, x1, x2, y1, y2, z1, z2, Option.bind_some, if_true, Bool.not_true, Bool.false_eq_true, if_false, and_self]
  · refine ⟨(0, 0, false), K1 + K2 + K3 + K4 + K6 + K7 + K8 + K9 + 9, fun k hk => ?_⟩
    obtain ⟨j, rfl⟩ : ∃ j, k = j + 1 := ⟨k - 1, by omega⟩
    simp (maxSteps := 2000000) (disch := omega) only [spec_ChanceOfDraw.f, impl_ChanceOfDraw.f, spec_ChanceOfDraw.j0, impl_ChanceOfDraw.j0, h1, h2, h3, h4, Option.bind_some]
    cases hf : fewB l with
    | false => simp
    | true =>
      have hb : isB l d = false := by cases hb : isB l d with | false => rfl | true => exact absurd ⟨hf, hb⟩ hc
      simp [hb]

end Go.Proofs.Ytdlififooknddaa.Pure
