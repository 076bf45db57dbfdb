/- Plain lemmas over the printed functions of this seat. -/
import Derived.Test.YtcnfhfjhpicpkaaR2
set_option linter.unusedVariables false
set_option linter.unusedSimpArgs false
namespace Go.Proofs.Ytcnfhfjhpicpkaa.Pure
open Go.RowKit Go.Proofs.Ytcnfhfjhpicpkaa.P Go.Proofs.YtcnfhfjhpicpkaaW.PrintWords Go.Proofs.YtcnfhfjhpicpkaaW.PrintLast Go.Proofs.YtcnfhfjhpicpkaaW.PrintMore

/-! ### gloves joined -/
theorem markGloves_at (l r : List Int) (a : Int) (h0 : 0 ≤ a) (h1 : a ≤ 4194304) (hl : l.length ≤ 1048576) (hr : r.length ≤ 1048576) : ∃ K, ∀ k, K ≤ k → laws_markGloves.f k l r a = some (a + (l.length : Int) + (r.length : Int), iota a l.length, iota (a + (l.length : Int)) r.length) := by
  obtain ⟨K1, h1⟩ := markIntS_ev l a hl h0 (by omega)
  obtain ⟨K2, h2⟩ := markIntS_ev r (a + (l.length : Int)) hr (by omega) (by omega)
  refine ⟨K1 + K2, fun k hk => ?_⟩
  simp (disch := omega) only [laws_markGloves.f, h1, h2, Option.bind_some]
theorem gvIfJ_ev (l r : List Int) (hl : l.length ≤ 1048576) (hr : r.length ≤ 1048576) : ∃ K, ∀ k, K ≤ k → spec_gvIf.f k l r = some (if gloveB l r = true then (l, r, true) else ([], [], false)) := by
  obtain ⟨K1, h1⟩ := gvGood_ev l r (by omega) (by omega)
  refine ⟨K1, fun k hk => ?_⟩
  simp (disch := omega) only [spec_gvIf.f, h1, Option.bind_some]
  cases gloveB l r <;> simp
theorem join_l (a0 a1 b0 b1 : List Int) (h8 : a0.length ≤ 8) (e1 : a1.length = a0.length) (f0 : b0.length = a0.length) (f1 : b1.length = a0.length) :
    ∀ (n i : Nat) (aL aR : List Int), a0.length - i = n → i ≤ a0.length → aL.length = i → aR.length = i → ∃ v : List Int × List Int × Bool, (v.1.length ≤ 8 ∧ v.2.1.length ≤ 8) ∧ Ev (fun k => spec_JoinGloves.l0 k a0 a0.length i a0 a1 b0 b1 aL aR) v ∧ Ev (fun k => madeJ.l0 (clJ b0 b1) k ((i : Int) - 1) a0 a0.length i a0 a1 aL aR) v := by
  intro n
  induction n with
  | zero =>
    intro i aL aR hn hi hL hR
    obtain rfl : i = a0.length := by omega
    have q1 : ¬ ((a0.length : Int) < (a0.length : Int)) := by omega
    obtain ⟨K1, h1⟩ := gvIfJ_ev aL aR (by omega) (by omega)
    obtain ⟨K2, h2⟩ := AreGloves_ev aL aR (by omega) (by omega)
    refine ⟨if gloveB aL aR = true then (aL, aR, true) else ([], [], false), ?_, ⟨K1 + 1, fun k hk => ?_⟩, ⟨K2 + 1, fun k hk => ?_⟩⟩
    · split
      · exact ⟨by show aL.length ≤ 8; omega, by show aR.length ≤ 8; omega⟩
      · simp
    · obtain ⟨k, rfl⟩ : ∃ j, k = j + 1 := ⟨k - 1, by omega⟩
      simp only [spec_JoinGloves.l0]
      rw [if_neg q1, h1 k (by omega), Option.bind_some]
    · obtain ⟨k, rfl⟩ : ∃ j, k = j + 1 := ⟨k - 1, by omega⟩
      show madeJ.l0 (clJ b0 b1) (k + 1) _ a0 a0.length (a0.length : Nat) a0 a1 aL aR = _
      simp only [madeJ.l0]
      rw [if_neg q1, h2 k (by omega), Option.bind_some]
      cases gloveB aL aR <;> simp
  | succ n ih =>
    intro i aL aR hn hi hL hR
    have hlt : i < a0.length := by omega
    have hlt1 : i < a1.length := by omega
    have hlt2 : i < b0.length := by omega
    have hlt3 : i < b1.length := by omega
    have q0 : (0 : Int) ≤ (i : Int) := by omega
    have q1 : (i : Int) < (a0.length : Int) := by omega
    have q2 : (i : Int) < (a1.length : Int) := by omega
    have q3 : (i : Int) < (b0.length : Int) := by omega
    have q4 : (i : Int) < (b1.length : Int) := by omega
    have p1 : aL.length < 17592186044416 := by omega
    have p2 : aR.length < 17592186044416 := by omega
    have p3 : aL.length + ([wrap64 (a0[i] + b0[i])] : List Int).length < 17592186044416 := by simp only [List.length_singleton]; omega
    have p4 : aR.length + ([wrap64 (a1[i] + b1[i])] : List Int).length < 17592186044416 := by simp only [List.length_singleton]; omega
    have l1 : (aL ++ [wrap64 (a0[i] + b0[i])]).length = i + 1 := by rw [List.length_append, hL]; rfl
    have l2 : (aR ++ [wrap64 (a1[i] + b1[i])]).length = i + 1 := by rw [List.length_append, hR]; rfl
    have bl : a0.length ≤ 9223372036854775807 := by omega
    have es : (i : Int) - 1 + 1 = (i : Int) := by omega
    have b1_ : -9223372036854775808 ≤ (i : Int) := by omega
    have b2_ : (i : Int) ≤ 9223372036854775807 := by omega
    have ei : ((i + 1 : Nat) : Int) - 1 = (i : Int) := by omega
    obtain ⟨v, hv, g1, g2⟩ := ih (i + 1) (aL ++ [wrap64 (a0[i] + b0[i])]) (aR ++ [wrap64 (a1[i] + b1[i])]) (by omega) (by omega) l1 l2
    rw [ei] at g2
    have ew : wrap64 ((i : Int) - 1 + 1) = (i : Int) := by rw [es]; exact wrap_small b1_ b2_
    have ec : clJ b0 b1 ((i : Int) - 1) a0[i] a1[i] = some (wrap64 (a0[i] + b0[i]), wrap64 (a1[i] + b1[i]), (i : Int)) := by
      unfold clJ
      rw [ew, if_pos q0, if_pos q3, if_pos q4, rd_at b0 i hlt2, rd_at b1 i hlt3]
    refine ⟨v, hv, Ev.step g1 (fun k => ?_), Ev.step g2 (fun k => ?_)⟩
    · simp only [spec_JoinGloves.l0]
      rw [if_pos q1, if_pos q0, if_pos q1, if_pos q3, if_pos p1, if_pos q2, if_pos q4, if_pos p2, rd_at a0 i hlt, rd_at a1 i hlt1, rd_at b0 i hlt2, rd_at b1 i hlt3, wrap_succ hlt bl]
    · simp only [madeJ.l0]
      rw [if_pos q1, if_pos q0, if_pos q1, if_pos q2, rd_at a0 i hlt, rd_at a1 i hlt1, ec, Option.bind_some, Option.bind_some, if_pos p3, Option.bind_some, if_pos p4, wrap_succ hlt bl]
theorem JoinGloves_ev (a0 a1 b0 b1 : List Int) (ha0 : a0.length ≤ 1048576) (ha1 : a1.length ≤ 1048576) (hb0 : b0.length ≤ 1048576) (hb1 : b1.length ≤ 1048576) : ∃ (v : List Int × List Int × Bool) (K : Nat), (v.1.length ≤ 1048576 ∧ v.2.1.length ≤ 1048576) ∧ ∀ k, K ≤ k → spec_JoinGloves.f k a0 a1 b0 b1 = some v ∧ impl_JoinGloves.f k a0 a1 b0 b1 = some v := by
  obtain ⟨K1, h1⟩ := gvGood_ev a0 a1 (by omega) (by omega)
  obtain ⟨K2, h2⟩ := AreGloves_ev a0 a1 (by omega) (by omega)
  obtain ⟨K3, h3⟩ := gvGood_ev b0 b1 (by omega) (by omega)
  obtain ⟨K4, h4⟩ := AreGloves_ev b0 b1 (by omega) (by omega)
  by_cases hc : gloveB a0 a1 = true ∧ gloveB b0 b1 = true ∧ a0.length = b0.length
  · obtain ⟨ga, gb, he⟩ := hc
    obtain ⟨g1, g2, g3, _⟩ := gloveB_iff.1 ga
    obtain ⟨i1, i2, i3, _⟩ := gloveB_iff.1 gb
    obtain ⟨v, hv, ⟨K5, h5⟩, ⟨K6, h6⟩⟩ := join_l a0 a1 b0 b1 g2 g3 (by omega) (by omega) a0.length 0 [] [] (by omega) (by omega) rfl rfl
    refine ⟨v, K1 + K2 + K3 + K4 + K5 + K6 + 2, ⟨by omega, by omega⟩, fun k hk => ?_⟩
    obtain ⟨k, rfl⟩ : ∃ j, k = j + 1 := ⟨k - 1, by omega⟩
    have q : ((a0.length : Int) != (b0.length : Int)) = false := by rw [he]; simp
    have q' : (a0.length : Int) = (b0.length : Int) := by omega
    have e5 : spec_JoinGloves.l0 k a0 a0.length 0 a0 a1 b0 b1 [] [] = some v := h5 k (by omega)
    have e6 : madeJ.l0 (clJ b0 b1) (k + 1) (-1) a0 a0.length 0 a0 a1 [] [] = some v := h6 (k + 1) (by omega)
    constructor
    · unfold spec_JoinGloves.f
      rw [h1 _ (by omega), ga, Option.bind_some, if_pos rfl, h3 _ (by omega), gb, Option.bind_some, if_pos rfl, q]
      simp only [spec_JoinGloves.j0, Bool.false_eq_true, if_false]
      exact e5
    · unfold impl_JoinGloves.f
      rw [h2 _ (by omega), ga, Option.bind_some, if_pos rfl, h4 _ (by omega), gb, Option.bind_some, if_pos rfl, if_pos q']
      unfold madeJ.f
      rw [h2 _ (by omega), ga, Option.bind_some, if_pos rfl]
      exact e6
  · refine ⟨([], [], false), K1 + K2 + K3 + K4 + 2, by simp, fun k hk => ?_⟩
    obtain ⟨k, rfl⟩ : ∃ j, k = j + 1 := ⟨k - 1, by omega⟩
    unfold spec_JoinGloves.f impl_JoinGloves.f
    rw [h1 _ (by omega), h2 _ (by omega), h3 _ (by omega), h4 _ (by omega)]
    simp only [Option.bind_some]
    cases ga : gloveB a0 a1 with
    | false => simp [spec_JoinGloves.j0]
    | true =>
      cases gb : gloveB b0 b1 with
      | false => simp [spec_JoinGloves.j0]
      | true =>
        have hne : ¬ a0.length = b0.length := fun e => hc ⟨ga, gb, e⟩
        have hne' : ¬ (a0.length : Int) = (b0.length : Int) := by omega
        have q : ((a0.length : Int) != (b0.length : Int)) = true := bne_iff_ne.2 hne'
        rw [q, if_neg hne']
        simp [spec_JoinGloves.j0]

end Go.Proofs.Ytcnfhfjhpicpkaa.Pure
