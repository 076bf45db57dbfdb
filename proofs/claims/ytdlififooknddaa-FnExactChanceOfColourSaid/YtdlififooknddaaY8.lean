/- Plain lemmas over the printed functions of this seat. -/
import Derived.Test.YtdlififooknddaaY5
import Derived.Test.YtdlififooknddaaPx18
set_option linter.unusedVariables false
set_option linter.unusedSimpArgs false
namespace Go.Proofs.Ytdlififooknddaa.Pure
open Go.RowKit Go.Proofs.Ytdlififooknddaa.P Go.Proofs.YtdlififooknddaaW.PrintWords Go.Proofs.YtdlififooknddaaW.PrintLast Go.Proofs.YtdlififooknddaaW.PrintMore

/-! ### the chance of a colour -/
/-- In how many ways k of n can be chosen. -/
def cv (n k : Int) : Int := (spec_chChoose.f 60 n k).getD 0
theorem cv_ev (n k : Int) (h0 : 0 ≤ n) (h1 : n ≤ 40) : 0 ≤ cv n k ∧ cv n k ≤ 2 ^ n.toNat ∧ (k < 0 → cv n k = 0) ∧ (n < k → cv n k = 0) ∧ (0 ≤ k → k ≤ n → 1 ≤ cv n k) ∧ ∀ m, 60 ≤ m → spec_chChoose.f m n k = some (cv n k) ∧ impl_choose.f m n k = some (cv n k) := by
  obtain ⟨v, a, b, c, d, e, f⟩ := choose_ev n k h0 h1
  have : cv n k = v := by unfold cv; rw [(f 60 (Nat.le_refl _)).1]; rfl
  rw [this]; exact ⟨a, b, c, d, e, f⟩
def colT (own all many d : Int) : Int := cv own d * cv (all - own) (many - d)
/-- n terms from d on. -/
def colTl (own all many : Int) : Nat → Int → Int
  | 0, _ => 0
  | n + 1, d => colT own all many d + colTl own all many n (d + 1)
theorem colT_bd (own all many d : Int) (h0 : 0 ≤ own) (h1 : own ≤ all) (h2 : all ≤ 40) : 0 ≤ colT own all many d ∧ colT own all many d ≤ 1099511627776 := by
  obtain ⟨a0, a1, _⟩ := cv_ev own d h0 (by omega)
  obtain ⟨b0, b1, _⟩ := cv_ev (all - own) (many - d) (by omega) (by omega)
  refine ⟨Int.mul_nonneg a0 b0, ?_⟩
  have h := Int.mul_le_mul a1 b1 b0 (Int.pow_nonneg (by omega))
  rw [← Int.pow_add, ← Int.toNat_add h0 (by omega : 0 ≤ all - own)] at h
  have hc : (2 : Int) ^ (own + (all - own)).toNat ≤ 2 ^ 40 := pow2_mono (by omega)
  unfold colT
  omega
theorem colTl_zero (own all many : Int) (h0 : 0 ≤ own) (h1 : own ≤ all) (h2 : all ≤ 40) : ∀ (n : Nat) (d : Int), many < d → colTl own all many n d = 0 := by
  intro n
  induction n with
  | zero => intro d _; rfl
  | succ n ih =>
    intro d hd
    obtain ⟨_, _, hz, _⟩ := cv_ev (all - own) (many - d) (by omega) (by omega)
    simp only [colTl, colT]
    rw [hz (by omega), ih (d + 1) (by omega)]
    simp
theorem colTl_bd (own all many : Int) (h0 : 0 ≤ own) (h1 : own ≤ all) (h2 : all ≤ 40) : ∀ (n : Nat) (d : Int), 0 ≤ colTl own all many n d ∧ colTl own all many n d ≤ 1099511627776 * n := by
  intro n
  induction n with
  | zero => intro d; simp [colTl]
  | succ n ih =>
    intro d
    have a := colT_bd own all many d h0 h1 h2
    have b := ih (d + 1)
    simp only [colTl]
    omega
theorem ColS_l (own all many least F : Int) (h0 : 0 ≤ own) (h1 : own ≤ all) (h2 : all ≤ 40) (h3 : 0 ≤ many) (h4 : many ≤ all) (h5 : own ≤ 20) (h6 : 0 ≤ least) (r : Int × Int × Bool) (K : Nat)
    (hK : ∀ k, K ≤ k → ((spec_chChoose.f k all many).bind fun t438 => ((spec_chLow.f k F t438).bind fun bt439 => (some (bt439.1, bt439.2, true)))) = some r) :
    ∀ (n k : Nat) (d acc : Int), n = (own + 1 - d).toNat → 0 ≤ d → d ≤ own + 1 → 0 ≤ acc → acc ≤ 1099511627776 * d → acc + (if least ≤ d then colTl own all many n d else colTl own all many (own + 1 - least).toNat least) = F → 2 * n + 2 + K + 60 < k →
    spec_ChanceOfColour.l0 k many least all own acc d = some r := by
  intro n
  induction n with
  | zero =>
    intro k d acc hn hd0 hd1 ha hb hF hk
    obtain ⟨m, rfl⟩ : ∃ m, k = m + 1 + 1 := ⟨k - 2, by omega⟩
    simp only [spec_ChanceOfColour.l0, spec_ChanceOfColour.j2]
    rw [if_neg (by omega), if_neg (by simp)]
    have : acc = F := by
      by_cases hl : least ≤ d
      · rw [if_pos hl] at hF; simp only [colTl] at hF; omega
      · rw [if_neg hl] at hF
        obtain ⟨j, hj⟩ : ∃ j, (own + 1 - least).toNat = j := ⟨_, rfl⟩
        have : j = 0 := by omega
        rw [hj, this] at hF; simp only [colTl] at hF; omega
    rw [this]
    exact hK m (by omega)
  | succ n ih =>
    intro k d acc hn hd0 hd1 ha hb hF hk
    obtain ⟨m, rfl⟩ : ∃ m, k = m + 1 + 1 := ⟨k - 2, by omega⟩
    simp only [spec_ChanceOfColour.l0, spec_ChanceOfColour.j2]
    rw [if_pos (by omega)]
    by_cases hm : d ≤ many
    · rw [if_pos (by simpa using hm)]
      have hw : wrap64 (d + 1) = d + 1 := wrap_small (by omega) (by omega)
      by_cases hl : least ≤ d
      · rw [if_pos (by omega), wrap_small (x := all - own) (by omega) (by omega), wrap_small (x := many - d) (by omega) (by omega)]
        obtain ⟨a0, a1, _, _, _, av⟩ := cv_ev own d h0 (by omega)
        obtain ⟨b0, b1, _, _, _, bv⟩ := cv_ev (all - own) (many - d) (by omega) (by omega)
        have hT := colT_bd own all many d h0 h1 h2
        rw [(av m (by omega)).1, (bv m (by omega)).1, Option.bind_some, Option.bind_some]
        have e : cv own d * cv (all - own) (many - d) = colT own all many d := rfl
        rw [e, wrap_small (x := colT own all many d) (by omega) (by omega), wrap_small (x := acc + colT own all many d) (by omega) (by omega), hw]
        rw [if_pos hl] at hF
        simp only [colTl] at hF
        exact ih m (d + 1) _ (by omega) (by omega) (by omega) (by omega) (by omega) (by rw [if_pos (by omega)]; omega) (by omega)
      · rw [if_neg (by omega), hw]
        rw [if_neg hl] at hF
        refine ih m (d + 1) _ (by omega) (by omega) (by omega) (by omega) (by omega) ?_ (by omega)
        by_cases hl2 : least ≤ d + 1
        · obtain rfl : least = d + 1 := by omega
          rw [if_pos hl2]
          rw [show (own + 1 - (d + 1)).toNat = n by omega] at hF
          exact hF
        · rw [if_neg hl2]; exact hF
    · rw [if_neg (by simpa using hm)]
      have : acc = F := by
        by_cases hl : least ≤ d
        · rw [if_pos hl, colTl_zero own all many h0 h1 h2 _ _ (by omega)] at hF; omega
        · rw [if_neg hl, colTl_zero own all many h0 h1 h2 _ _ (by omega)] at hF; omega
      rw [this]
      exact hK m (by omega)
theorem ColI_l (own all many F : Int) (h0 : 0 ≤ own) (h1 : own ≤ all) (h2 : all ≤ 40) (h3 : 0 ≤ many) (h4 : many ≤ all) (h5 : own ≤ 20) (r : Int × Int × Bool) (K : Nat)
    (hK : ∀ k, K ≤ k → ((impl_choose.f k all many).bind fun t449 => ((impl_fraction.f k F t449).bind fun bt450 => (some (bt450.1, bt450.2.1, bt450.2.2)))) = some r) :
    ∀ (n k : Nat) (d acc : Int), n = (own + 1 - d).toNat → 0 ≤ d → 0 ≤ acc → acc ≤ 1099511627776 * d → acc + colTl own all many n d = F → n + K + 60 < k →
    impl_ChanceOfColour.l0 k many acc own all d = some r := by
  intro n
  induction n with
  | zero =>
    intro k d acc hn hd0 ha hb hF hk
    obtain ⟨m, rfl⟩ : ∃ m, k = m + 1 := ⟨k - 1, by omega⟩
    simp only [impl_ChanceOfColour.l0]
    simp only [colTl] at hF
    rw [if_neg (by omega), show acc = F by omega]
    exact hK m (by omega)
  | succ n ih =>
    intro k d acc hn hd0 ha hb hF hk
    obtain ⟨m, rfl⟩ : ∃ m, k = m + 1 := ⟨k - 1, by omega⟩
    have hw : wrap64 (d + 1) = d + 1 := wrap_small (by omega) (by omega)
    obtain ⟨a0, a1, _, _, _, av⟩ := cv_ev own d h0 (by omega)
    obtain ⟨b0, b1, _, _, _, bv⟩ := cv_ev (all - own) (many - d) (by omega) (by omega)
    have hT := colT_bd own all many d h0 h1 h2
    have e : cv own d * cv (all - own) (many - d) = colT own all many d := rfl
    simp only [impl_ChanceOfColour.l0]
    rw [if_pos (by omega), wrap_small (x := all - own) (by omega) (by omega), wrap_small (x := many - d) (by omega) (by omega), (av m (by omega)).2, (bv m (by omega)).2, Option.bind_some, Option.bind_some, e, wrap_small (x := colT own all many d) (by omega) (by omega), wrap_small (x := acc + colT own all many d) (by omega) (by omega), hw]
    simp only [colTl] at hF
    exact ih m (d + 1) _ (by omega) (by omega) (by omega) (by omega) (by omega) (by omega)
theorem mem_le_sum (l : List Int) (h : ∀ x ∈ l, 0 ≤ x ∧ x ≤ 20) : ∀ y ∈ l, y ≤ l.sum := by
  induction l with
  | nil => intro y hy; cases hy
  | cons x l ih =>
    intro y hy
    have hx := h x (by simp)
    have hs := (sum_bounds l 20 (fun z hz => h z (by simp [hz]))).1
    rw [List.sum_cons]
    rcases List.mem_cons.1 hy with rfl | hy
    · omega
    · have := ih (fun z hz => h z (by simp [hz])) y hy; omega
theorem ChanceOfColour_ev (l : List Int) (c m least : Int) (hl : l.length ≤ 1048576) : ∃ r K, ∀ k, K ≤ k → spec_ChanceOfColour.f k l c m least = some r ∧ impl_ChanceOfColour.f k l c m least = some r := by
  obtain ⟨K1, h1⟩ := chAsked_ev l m hl
  obtain ⟨K2, h2⟩ := isNumber_ev l m hl
  obtain ⟨K3, h3⟩ := soSum_ev l (by omega)
  obtain ⟨K4, h4⟩ := total_ev l (by omega)
  obtain ⟨K5, h5⟩ := isColour_ev l c hl
  have hw : wrap64 ((l.length : Int) - 1) = (l.length : Int) - 1 := wrap_small (by omega) (by omega)
  by_cases hn : numB l m = true
  · obtain ⟨hf, a0, a1⟩ := numB_iff.1 hn
    obtain ⟨s1, s2, s3, s4, s5, s6⟩ := few_sum hf
    have hg : goodB l = true := (fewB_iff.1 hf).1
    by_cases hc : 0 ≤ c ∧ c < (l.length : Int)
    · have e : (decide (0 ≤ c) && decide (c ≤ (l.length : Int) - 1)) = true := by simp; omega
      have ec : colB l c = true := by simp only [colB, hg, e, Bool.and_self]
      by_cases hle : 0 ≤ least
      · have hr := s6 _ (rd_mem l c hc.1 hc.2)
        have ho := mem_le_sum l s6 _ (rd_mem l c hc.1 hc.2)
        obtain ⟨F, hF⟩ : ∃ F, F = colTl (rd l c) l.sum m (rd l c + 1 - least).toNat least := ⟨_, rfl⟩
        have hFb := colTl_bd (rd l c) l.sum m hr.1 ho s3 (rd l c + 1 - least).toNat least
        rw [← hF] at hFb
        obtain ⟨v0, v1, _, _, v2, hv⟩ := cv_ev l.sum m (by omega) s3
        have hcap : (2 : Int) ^ (l.sum).toNat ≤ 2 ^ 40 := pow2_mono (by omega)
        have hv1 := v2 a0 (by omega)
        obtain ⟨p, K6, h6⟩ := low_ev F (cv l.sum m) hFb.1 (by omega) (by omega)
        have hS := ColS_l (rd l c) l.sum m least F hr.1 ho s3 a0 (by omega) hr.2 hle (p.1, p.2, true) (K6 + 60) (fun k hk => by
          rw [(hv k (by omega)).1, Option.bind_some, (h6 k (by omega)).1]; rfl) (rd l c + 1 - 0).toNat
        have hI := ColI_l (rd l c) l.sum m F hr.1 ho s3 a0 (by omega) hr.2 (p.1, p.2, true) (K6 + 60) (fun k hk => by
          rw [(hv k (by omega)).2, Option.bind_some, (h6 k (by omega)).2]; rfl) (rd l c + 1 - least).toNat
        refine ⟨(p.1, p.2, true), K1 + K2 + K3 + K4 + K5 + K6 + 400, fun k hk => ?_⟩
        obtain ⟨j, rfl⟩ : ∃ j, k = j + 1 := ⟨k - 1, by omega⟩
        have x1 := hS j 0 0 rfl (by omega) (by omega) (by omega) (by omega) (by
          by_cases hz : least ≤ 0
          · obtain rfl : least = 0 := by omega
            rw [if_pos hz, hF]; omega
          · rw [if_neg hz, hF]; omega) (by omega)
        have x2 := hI j least 0 rfl hle (by omega) (by omega) (by omega) (by omega)
        have e2 : (decide (least < 0)) = false := by simp; omega
        simp (maxSteps := 2000000) (disch := omega) only [spec_ChanceOfColour.f, impl_ChanceOfColour.f, spec_ChanceOfColour.j0, impl_ChanceOfColour.j0, l1In_eq, h1, h2, h3, h4, h5, hn, hw, e, ec, e2, s1, x1, x2, Option.bind_some, if_true, Bool.false_eq_true, if_false, if_pos hc.1, if_pos hc.2, and_self]
      · have e2 : (decide (least < 0)) = true := by simp; omega
        refine ⟨(0, 0, false), K1 + K2 + K5 + 9, fun k hk => ?_⟩
        obtain ⟨j, rfl⟩ : ∃ j, k = j + 1 := ⟨k - 1, by omega⟩
        simp (maxSteps := 2000000) (disch := omega) only [spec_ChanceOfColour.f, impl_ChanceOfColour.f, spec_ChanceOfColour.j0, impl_ChanceOfColour.j0, l1In_eq, h1, h2, h5, hn, hw, e, ec, e2, Option.bind_some, if_true, and_self]
    · have e : (decide (0 ≤ c) && decide (c ≤ (l.length : Int) - 1)) = false := by simp; omega
      have ec : colB l c = false := by simp only [colB, e, Bool.and_false]
      refine ⟨(0, 0, false), K1 + K2 + K5 + 9, fun k hk => ?_⟩
      obtain ⟨j, rfl⟩ : ∃ j, k = j + 1 := ⟨k - 1, by omega⟩
      simp (maxSteps := 2000000) (disch := omega) only [spec_ChanceOfColour.f, impl_ChanceOfColour.f, spec_ChanceOfColour.j0, impl_ChanceOfColour.j0, l1In_eq, h1, h2, h5, hn, hw, e, ec, Option.bind_some, if_true, Bool.false_eq_true, if_false, and_self]
  · have hn' : numB l m = false := by simpa using hn
    refine ⟨(0, 0, false), K1 + K2 + 9, fun k hk => ?_⟩
    obtain ⟨j, rfl⟩ : ∃ j, k = j + 1 := ⟨k - 1, by omega⟩
    simp (maxSteps := 2000000) (disch := omega) only [spec_ChanceOfColour.f, impl_ChanceOfColour.f, spec_ChanceOfColour.j0, impl_ChanceOfColour.j0, h1, h2, hn', Option.bind_some, if_true, Bool.false_eq_true, if_false, and_self]

end Go.Proofs.Ytdlififooknddaa.Pure
