/- Plain lemmas over the printed functions of this seat. -/
import Derived.Test.YtcnfhfjhpicpkaaY1
import Derived.Test.YtcnfhfjhpicpkaaPx4
set_option linter.unusedVariables false
set_option linter.unusedSimpArgs false
namespace Go.Proofs.Ytcnfhfjhpicpkaa.Pure
open Go.RowKit Go.Proofs.Ytcnfhfjhpicpkaa.P Go.Proofs.YtcnfhfjhpicpkaaW.PrintWords Go.Proofs.YtcnfhfjhpicpkaaW.PrintLast Go.Proofs.YtcnfhfjhpicpkaaW.PrintMore

/-! ### the worst gloves -/
theorem l1LeastW_eq (a b : Int) : spec_l1Least.f a b = some (if a < b then a else b) := by unfold spec_l1Least.f; split <;> rfl
theorem mn3 (s x y : Int) : (if s < (if x < y then x else y) then s else (if x < y then x else y)) = mn (mn x y) s := by
  unfold mn
  by_cases h1 : x < y
  · rw [if_pos h1, if_neg (show ¬ y < x by omega)]
  · rw [if_neg h1]
    by_cases h2 : y < x
    · rw [if_pos h2]
    · rw [if_neg h2]
      obtain rfl : x = y := by omega
      rfl
theorem mn3_bd (s x y : Int) (h0 : 0 ≤ s) (hx : 0 ≤ x) (hy : 0 ≤ y) : 0 ≤ mn (mn x y) s ∧ mn (mn x y) s ≤ s ∧ mn (mn x y) s ≤ x ∧ mn (mn x y) s ≤ y := by
  unfold mn
  by_cases h1 : y < x
  · rw [if_pos h1]; split <;> omega
  · rw [if_neg h1]; split <;> omega
structure WIn (l r : List Int) (i : Nat) (s : Int) (aL aR : List Int) : Prop where
  s0 : 0 ≤ s
  s1 : s ≤ 9223372036854775807
  lenL : aL.length = i
  lenR : aR.length = i
  eL : ∀ x ∈ aL, 0 ≤ x ∧ x ≤ 20
  eR : ∀ x ∈ aR, 0 ≤ x ∧ x ≤ 20
  pos : 0 < aL.sum + aR.sum + (l.drop i).sum + (r.drop i).sum
theorem sum_pos (l : List Int) (h : ∀ x ∈ l, 0 ≤ x) : 0 ≤ l.sum := by
  induction l with
  | nil => simp
  | cons y l ih =>
    have hy := h y (by simp)
    have := ih (fun z hz => h z (by simp [hz]))
    rw [List.sum_cons]; omega
theorem WIn.next {l r : List Int} {i : Nat} {s : Int} {aL aR : List Int} (h : WIn l r i s aL aR) (hl : i < l.length) (hr : i < r.length) (h1 : ∀ x ∈ l, 0 ≤ x ∧ x ≤ 20) (h2 : ∀ x ∈ r, 0 ≤ x ∧ x ≤ 20) (a b f : Int) (hf : f = mn (mn l[i] r[i]) s) (hab : (l[i] < r[i] ∧ a = f ∧ b = r[i]) ∨ (¬ l[i] < r[i] ∧ a = l[i] ∧ b = f)) :
    WIn l r (i + 1) (s - f) (aL ++ [a]) (aR ++ [b]) := by
  have x1 := h1 l[i] (List.getElem_mem hl)
  have x2 := h2 r[i] (List.getElem_mem hr)
  have hb := mn3_bd s l[i] r[i] h.s0 x1.1 x2.1
  rw [← hf] at hb
  have hp := h.pos
  rw [List.drop_eq_getElem_cons hl, List.drop_eq_getElem_cons hr, List.sum_cons, List.sum_cons] at hp
  have s0 := h.s0
  have s1 := h.s1
  have p1 := sum_pos aL (fun x hx => (h.eL x hx).1)
  have p2 := sum_pos aR (fun x hx => (h.eR x hx).1)
  have p3 := sum_pos (l.drop (i + 1)) (fun x hx => (h1 x (List.mem_of_mem_drop hx)).1)
  have p4 := sum_pos (r.drop (i + 1)) (fun x hx => (h2 x (List.mem_of_mem_drop hx)).1)
  refine ⟨by omega, by omega, by rw [List.length_append, h.lenL]; rfl, by rw [List.length_append, h.lenR]; rfl, fun x hx => ?_, fun x hx => ?_, ?_⟩
  · rcases List.mem_append.1 hx with e | e
    · exact h.eL x e
    · rw [List.mem_singleton.1 e]; omega
  · rcases List.mem_append.1 hx with e | e
    · exact h.eR x e
    · rw [List.mem_singleton.1 e]; omega
  · rw [List.sum_append, List.sum_append]
    simp only [List.sum_cons, List.sum_nil]
    omega
theorem worst_l (l r : List Int) (hl : l.length ≤ 8) (hl0 : 1 ≤ l.length) (he : r.length = l.length) (h1 : ∀ x ∈ l, 0 ≤ x ∧ x ≤ 20) (h2 : ∀ x ∈ r, 0 ≤ x ∧ x ≤ 20) :
    ∀ (n i : Nat) (s : Int) (aL aR : List Int), l.length - i = n → i ≤ l.length → WIn l r i s aL aR → ∃ v : List Int × List Int × Bool, (v.1.length ≤ 8 ∧ v.2.1.length ≤ 8) ∧ Ev (fun k => spec_WorstGloves.l0 k s l l.length i l r aL aR) v ∧ Ev (fun k => madeW.l0 clW k s l l.length i l r aL aR) v := by
  intro n
  induction n with
  | zero =>
    intro i s aL aR hn hi hW
    obtain rfl : i = l.length := by omega
    have q1 : ¬ ((l.length : Int) < (l.length : Int)) := by omega
    have hlL := hW.lenL
    have hlR := hW.lenR
    have hg : gloveB aL aR = true := by
      refine gloveB_iff.2 ⟨by omega, by omega, by omega, hW.eL, hW.eR, ?_⟩
      have := hW.pos
      rw [List.drop_eq_nil_of_le (Nat.le_refl _), List.drop_eq_nil_of_le (by omega)] at this
      simpa using this
    obtain ⟨K, hK⟩ := AreGloves_ev aL aR (by omega) (by omega)
    refine ⟨(aL, aR, true), ⟨by show aL.length ≤ 8; omega, by show aR.length ≤ 8; omega⟩, Ev.now (fun k => ?_), ⟨K + 1, fun k hk => ?_⟩⟩
    · simp only [spec_WorstGloves.l0]
      rw [if_neg q1]
    · obtain ⟨k, rfl⟩ : ∃ j, k = j + 1 := ⟨k - 1, by omega⟩
      show madeW.l0 clW (k + 1) s l l.length (l.length : Nat) l r aL aR = _
      simp only [madeW.l0]
      rw [if_neg q1, hK k (by omega), hg, Option.bind_some, if_pos rfl]
  | succ n ih =>
    intro i s aL aR hn hi hW
    have hlt : i < l.length := by omega
    have hlt2 : i < r.length := by omega
    have q0 : (0 : Int) ≤ (i : Int) := by omega
    have q1 : (i : Int) < (l.length : Int) := by omega
    have q2 : (i : Int) < (r.length : Int) := by omega
    have hlL := hW.lenL
    have hlR := hW.lenR
    have p1 : aL.length < 17592186044416 := by omega
    have p2 : aR.length < 17592186044416 := by omega
    have x1 := h1 l[i] (List.getElem_mem hlt)
    have x2 := h2 r[i] (List.getElem_mem hlt2)
    have hb := mn3_bd s l[i] r[i] hW.s0 x1.1 x2.1
    have s0 := hW.s0
    have s1 := hW.s1
    have hi8 : i < l.length ∧ l.length ≤ 9223372036854775807 := by omega
    have w1 : -9223372036854775808 ≤ s - mn (mn l[i] r[i]) s := by omega
    have w2 : s - mn (mn l[i] r[i]) s ≤ 9223372036854775807 := by omega
    by_cases hxy : l[i] < r[i]
    · have q3 : ¬ (l[i] ≥ r[i]) := by omega
      obtain ⟨v, hv, g1, g2⟩ := ih (i + 1) (s - mn (mn l[i] r[i]) s) (aL ++ [mn (mn l[i] r[i]) s]) (aR ++ [r[i]]) (by omega) (by omega) (hW.next hlt hlt2 h1 h2 _ _ _ rfl (.inl ⟨hxy, rfl, rfl⟩))
      have ec : clW s l[i] r[i] = some (mn (mn l[i] r[i]) s, r[i], wrap64 (s - mn (mn l[i] r[i]) s)) := by unfold clW; rw [if_pos hxy]
      refine ⟨v, hv, Ev.step g1 (fun k => ?_), Ev.step g2 (fun k => ?_)⟩
      · simp only [spec_WorstGloves.l0]
        rw [if_pos q1, if_pos q0, if_pos q1, if_pos q2, rd_at l i hlt, rd_at r i hlt2, l1LeastW_eq, Option.bind_some, l1LeastW_eq, Option.bind_some, mn3, if_neg q3, if_pos p1, if_pos p2, wrap_small w1 w2, wrap_succ hi8.1 hi8.2]
      · simp only [madeW.l0]
        have p3 : aL.length + ([mn (mn l[i] r[i]) s] : List Int).length < 17592186044416 := by simp only [List.length_singleton]; omega
        have p4 : aR.length + ([r[i]] : List Int).length < 17592186044416 := by simp only [List.length_singleton]; omega
        rw [if_pos q1, if_pos q0, if_pos q1, if_pos q2, rd_at l i hlt, rd_at r i hlt2, ec, Option.bind_some, Option.bind_some, if_pos p3, Option.bind_some, if_pos p4, wrap_small w1 w2, wrap_succ hi8.1 hi8.2]
    · have q3 : l[i] ≥ r[i] := by omega
      obtain ⟨v, hv, g1, g2⟩ := ih (i + 1) (s - mn (mn l[i] r[i]) s) (aL ++ [l[i]]) (aR ++ [mn (mn l[i] r[i]) s]) (by omega) (by omega) (hW.next hlt hlt2 h1 h2 _ _ _ rfl (.inr ⟨hxy, rfl, rfl⟩))
      have ec : clW s l[i] r[i] = some (l[i], mn (mn l[i] r[i]) s, wrap64 (s - mn (mn l[i] r[i]) s)) := by unfold clW; rw [if_neg hxy]
      refine ⟨v, hv, Ev.step g1 (fun k => ?_), Ev.step g2 (fun k => ?_)⟩
      · simp only [spec_WorstGloves.l0]
        rw [if_pos q1, if_pos q0, if_pos q1, if_pos q2, rd_at l i hlt, rd_at r i hlt2, l1LeastW_eq, Option.bind_some, l1LeastW_eq, Option.bind_some, mn3, if_pos q3, if_pos p1, if_pos p2, wrap_small w1 w2, wrap_succ hi8.1 hi8.2]
      · simp only [madeW.l0]
        have p3 : aL.length + ([l[i]] : List Int).length < 17592186044416 := by simp only [List.length_singleton]; omega
        have p4 : aR.length + ([mn (mn l[i] r[i]) s] : List Int).length < 17592186044416 := by simp only [List.length_singleton]; omega
        rw [if_pos q1, if_pos q0, if_pos q1, if_pos q2, rd_at l i hlt, rd_at r i hlt2, ec, Option.bind_some, Option.bind_some, if_pos p3, Option.bind_some, if_pos p4, wrap_small w1 w2, wrap_succ hi8.1 hi8.2]
theorem WorstGloves_ev (l r : List Int) (a : Int) (hl : l.length ≤ 1048576) (hr : r.length ≤ 1048576) (hw : (Lit.int .i64 a).wf = true) : ∃ (v : List Int × List Int × Bool) (K : Nat), (v.1.length ≤ 1048576 ∧ v.2.1.length ≤ 1048576) ∧ ∀ k, K ≤ k → spec_WorstGloves.f k l r a = some v ∧ impl_WorstGloves.f k l r a = some v := by
  have hwf : a ≤ 9223372036854775807 := by
    simp only [Lit.wf, Bool.and_eq_true, decide_eq_true_eq] at hw
    exact hw.2
  obtain ⟨K1, h1⟩ := gvGood_ev l r (by omega) (by omega)
  obtain ⟨K2, h2⟩ := AreGloves_ev l r (by omega) (by omega)
  by_cases hg : gloveB l r = true
  · by_cases ha : a < 1
    · refine ⟨([], [], false), K1 + 2, by simp, fun k hk => ?_⟩
      obtain ⟨k, rfl⟩ : ∃ j, k = j + 1 := ⟨k - 1, by omega⟩
      have q : decide (a < 1) = true := decide_eq_true ha
      constructor
      · unfold spec_WorstGloves.f
        rw [h1 _ (by omega), hg, Option.bind_some, if_pos rfl, q]
        simp only [spec_WorstGloves.j0, if_true]
      · unfold impl_WorstGloves.f
        rw [if_pos ha]
    · obtain ⟨g1, g2, g3, g4, g5, g6⟩ := gloveB_iff.1 hg
      obtain ⟨v, hv, ⟨K3, h3⟩, ⟨K4, h4⟩⟩ := worst_l l r g2 g1 g3 g4 g5 l.length 0 (a - 1) [] [] (by omega) (by omega) ⟨by omega, by omega, rfl, rfl, by simp, by simp, by simpa using g6⟩
      refine ⟨v, K1 + K2 + K3 + K4 + 2, ⟨by omega, by omega⟩, fun k hk => ?_⟩
      obtain ⟨k, rfl⟩ : ∃ j, k = j + 1 := ⟨k - 1, by omega⟩
      have q : decide (a < 1) = false := decide_eq_false ha
      have b1 : -9223372036854775808 ≤ a - 1 := by omega
      have b2 : a - 1 ≤ 9223372036854775807 := by omega
      have e3 : spec_WorstGloves.l0 k (a - 1) l l.length 0 l r [] [] = some v := h3 k (by omega)
      have e4 : madeW.l0 clW (k + 1) (a - 1) l l.length 0 l r [] [] = some v := h4 (k + 1) (by omega)
      have e2 := h2 (k + 1) (by omega)
      constructor
      · unfold spec_WorstGloves.f
        rw [h1 _ (by omega), hg, Option.bind_some, if_pos rfl, q]
        simp only [spec_WorstGloves.j0, Bool.false_eq_true, if_false]
        rw [wrap_small b1 b2]
        exact e3
      · unfold impl_WorstGloves.f
        rw [if_neg ha, wrap_small b1 b2]
        unfold madeW.f
        rw [e2, hg, Option.bind_some, if_pos rfl]
        exact e4
  · have hg2 : gloveB l r = false := by simpa using hg
    refine ⟨([], [], false), K1 + K2 + 2, by simp, fun k hk => ?_⟩
    obtain ⟨k, rfl⟩ : ∃ j, k = j + 1 := ⟨k - 1, by omega⟩
    have e2 := h2 (k + 1) (by omega)
    constructor
    · unfold spec_WorstGloves.f
      rw [h1 _ (by omega), hg2, Option.bind_some, if_neg (by decide)]
      simp only [spec_WorstGloves.j0, if_true]
    · unfold impl_WorstGloves.f
      by_cases ha : a < 1
      · rw [if_pos ha]
      · rw [if_neg ha]
        unfold madeW.f
        rw [e2, hg2, Option.bind_some, if_neg (by decide)]

end Go.Proofs.Ytcnfhfjhpicpkaa.Pure
