/- Plain lemmas over the printed functions of this seat. -/
import Derived.Test.YtjldifjfgeifcaaY13
import Derived.Test.YtjldifjfgeifcaaPx11
set_option linter.unusedVariables false
set_option linter.unusedSimpArgs false
namespace Go.Proofs.Ytjldifjfgeifcaa.Pure
open Go.RowKit Go.Proofs.Ytjldifjfgeifcaa.P Go.Proofs.YtjldifjfgeifcaaW.PrintWords Go.Proofs.YtjldifjfgeifcaaW.PrintLast Go.Proofs.YtjldifjfgeifcaaW.PrintMore

theorem ex_l0 (l : List Int) (hl : l.length ≤ 8) (hx : ∀ x ∈ l, 0 ≤ x ∧ x ≤ 20) (x0 : List Int) (x1 : Int) (x2 : List Int) (x7 : Int) (r : Bool) (A P T : Int) (e : Ev (fun k => laws_FnSureExactly.l0 k x0 x1 x2 x7 A P T l l.length l.length) r) :
    ∀ (d i : Nat) (a p t : Int), l.length - i = d → i ≤ l.length → 0 ≤ a → 0 ≤ p → 0 ≤ t → a + cA (l.drop i) = A → p + cP (l.drop i) = P → t + cT (l.drop i) = T → A ≤ 1000 → P ≤ 1000 → T ≤ 1000 → Ev (fun k => laws_FnSureExactly.l0 k x0 x1 x2 x7 a p t l l.length i) r := by
  intro d
  induction d with
  | zero =>
    intro i a p t hd hi a0 p0 t0 ha hp ht b1 b2 b3
    obtain rfl : i = l.length := by omega
    rw [List.drop_length] at ha hp ht
    simp only [cA, cP, cT, Int.add_zero] at ha hp ht
    subst ha hp ht
    exact e
  | succ d ih =>
    intro i a p t hd hi a0 p0 t0 ha hp ht b1 b2 b3
    have hlt : i < l.length := by omega
    rw [List.drop_eq_getElem_cons hlt] at ha hp ht
    simp only [cA, cP, cT] at ha hp ht
    have hn := hx l[i] (List.getElem_mem hlt)
    obtain ⟨c1, c2, c3, c4, c5, c6⟩ := c_nonneg (l.drop (i + 1)) (fun x h => hx x (List.mem_of_mem_drop h))
    have d0 : (0 : Int) ≤ (i : Int) := by omega
    have d1 : (i : Int) < (l.length : Int) := by omega
    have hb : l.length ≤ 9223372036854775807 := by omega
    by_cases h0 : l[i] > 0
    · rw [if_pos h0] at ha hp ht
      have ih' := ih (i + 1) (a + 1) (p + (l[i] - 1) / 2) (t + (l[i] + 1) % 2) (by omega) (by omega) (by omega) (by omega) (by omega) (by omega) (by omega) (by omega) b1 b2 b3
      have e1 : Int.tdiv (l[i] - 1) 2 = (l[i] - 1) / 2 := Int.tdiv_eq_ediv_of_nonneg (by omega)
      have e2 : Int.tmod (l[i] + 1) 2 = (l[i] + 1) % 2 := Int.tmod_eq_emod_of_nonneg (by omega)
      have w1 : wrap64 (a + 1) = a + 1 := wrap_small (by omega) (by omega)
      have w2 : wrap64 (l[i] - 1) = l[i] - 1 := wrap_small (by omega) (by omega)
      have w3 : wrap64 (l[i] + 1) = l[i] + 1 := wrap_small (by omega) (by omega)
      have w4 : wrap64 ((l[i] - 1) / 2) = (l[i] - 1) / 2 := wrap_small (by omega) (by omega)
      have w5 : wrap64 (p + (l[i] - 1) / 2) = p + (l[i] - 1) / 2 := wrap_small (by omega) (by omega)
      have w6 : wrap64 (t + (l[i] + 1) % 2) = t + (l[i] + 1) % 2 := wrap_small (by omega) (by omega)
      have ei := wrap_succ hlt hb
      refine Ev.step ih' (fun k => ?_)
      simp only [laws_FnSureExactly.l0]
      rw [if_pos d1, if_pos d0, if_pos d1, rd_at l i hlt, if_pos h0, w1, w2, w3, e1, e2, w4, w5, w6, ei]
    · rw [if_neg h0] at ha hp ht
      have ih' := ih (i + 1) a p t (by omega) (by omega) a0 p0 t0 (by omega) (by omega) (by omega) b1 b2 b3
      have ei := wrap_succ hlt hb
      refine Ev.step ih' (fun k => ?_)
      simp only [laws_FnSureExactly.l0]
      rw [if_pos d1, if_pos d0, if_pos d1, rd_at l i hlt, if_neg h0, ei]
theorem ex_l1 (x7 : Int) (d : List Int) (hd : d.length ≤ 1000) : ∀ (n i k : Nat) (a : Int), d.length - i = n → i ≤ d.length → n < k → laws_FnSureExactly.l1 k x7 a d d.length i = some (decide (wsum a (d.drop i) < x7)) := by
  intro n
  induction n with
  | zero =>
    intro k2 k a h1 h2 h3
    obtain ⟨m, rfl⟩ : ∃ m, k = m + 1 := ⟨k - 1, by omega⟩
    obtain rfl : k2 = d.length := by omega
    simp only [laws_FnSureExactly.l1]
    rw [if_neg (by omega), List.drop_length]
    rfl
  | succ n ih =>
    intro i k a h1 h2 h3
    obtain ⟨m, rfl⟩ : ∃ m, k = m + 1 := ⟨k - 1, by omega⟩
    have hlt : i < d.length := by omega
    simp only [laws_FnSureExactly.l1]
    rw [if_pos (by omega), if_pos (by omega), if_pos (by omega), rd_at d i hlt, wrap_succ hlt (by omega), ih (i + 1) m _ (by omega) (by omega) (by omega), List.drop_eq_getElem_cons hlt, wsum_cons]
theorem mn_min (a b : Int) : mn a b = min a b := by unfold mn; omega
theorem mx_max (a b : Int) : mx a b = max a b := by unfold mx; omega
theorem FnSureExactly : laws_FnSureExactly.Pure := by
  intro l a d hm0 hr0 hw0 ho hm2 hr2 hw2
  by_cases hl : (l.length : Int) > 1000
  · refine ⟨1, ?_⟩
    unfold laws_FnSureExactly.f
    rw [if_pos hl]
    rfl
  by_cases hd : (d.length : Int) > 1000
  · refine ⟨1, ?_⟩
    unfold laws_FnSureExactly.f
    rw [if_neg hl, decide_eq_true hd]
    rfl
  obtain ⟨K1, h1⟩ := SurePairs_fn l a (by omega)
  suffices h : ∃ k, laws_FnSureExactly.j0 k l a d false = some true by
    obtain ⟨k, h⟩ := h
    refine ⟨k, ?_⟩
    unfold laws_FnSureExactly.f
    rw [if_neg hl, decide_eq_false hd]
    exact h
  by_cases hg : goodB l = true ∧ 1 ≤ a ∧ a ≤ prs l
  · obtain ⟨p, hp⟩ : ∃ p : Nat, a = (p : Int) + 1 := ⟨(a - 1).toNat, by omega⟩
    obtain ⟨hg0, hg1, hg2⟩ := hg
    obtain ⟨g1, g2, g3, g4⟩ := goodB_iff.1 hg0
    have e4 : (a - 1).toNat = p := by omega
    have hW := W_prop l (by omega) g3 p
    have hC := W_closed l (by omega) g3 p
    obtain ⟨c1, c2, c3, c4, c5, c6⟩ := c_nonneg l g3
    have hpp := prs_le l g3
    obtain ⟨K2, h2⟩ := IsDrawI_ev l d (by omega) (by omega)
    obtain ⟨K3, h3⟩ := pairsOf_ev d (by omega)
    -- the end of the first loop
    have hend : Ev (fun k => laws_FnSureExactly.l0 k l a d (W l p + 1) (cA l) (cP l) (cT l) l l.length l.length) true := by
      refine ⟨K2 + K3 + d.length + 3, fun k hk => ?_⟩
      obtain ⟨m, rfl⟩ : ∃ m, k = m + 1 + 1 := ⟨k - 2, by omega⟩
      have q2 := h2 (m + 1) (by omega)
      have q3 := h3 (m + 1) (by omega)
      have q4 := ex_l1 (W l p + 1) d (by omega) d.length 0 m 0 (by omega) (by omega) (by omega)
      have w1 : wrap64 (a - 1) = (p : Int) := by rw [wrap_small (by omega) (by omega)]; omega
      have w2 : wrap64 (2 * min (p : Int) (cP l)) = 2 * min (p : Int) (cP l) := wrap_small (by omega) (by omega)
      have w3 : wrap64 (cA l + 2 * min (p : Int) (cP l)) = cA l + 2 * min (p : Int) (cP l) := wrap_small (by omega) (by omega)
      have w4 : wrap64 ((p : Int) - cP l) = (p : Int) - cP l := wrap_small (by omega) (by omega)
      have w5 : wrap64 (cA l + 2 * min (p : Int) (cP l) + min (max ((p : Int) - cP l) 0) (cT l)) = cA l + 2 * min (p : Int) (cP l) + min (max ((p : Int) - cP l) 0) (cT l) := wrap_small (by omega) (by omega)
      have w6 : wrap64 (cA l + 2 * min (p : Int) (cP l) + min (max ((p : Int) - cP l) 0) (cT l) + 1) = cA l + 2 * min (p : Int) (cP l) + min (max ((p : Int) - cP l) 0) (cT l) + 1 := wrap_small (by omega) (by omega)
      have nlt : ¬ ((l.length : Int) < (l.length : Int)) := by omega
      simp only [laws_FnSureExactly.l0, mn_min, mx_max]
      rw [if_neg nlt, w1, w2, w3, w4, w5, w6, if_pos (by rw [hC]), q2, Option.bind_some, if_pos hg0]
      simp only [impl_PairsOfDraw.f, impl_isDraw.f]
      rw [q2, Option.bind_some, Option.bind_some, if_pos hg0]
      cases hB : isB l d with
      | false =>
        simp only [if_true, Bool.false_eq_true, if_false, Option.bind_some]
        simp only [laws_FnSureExactly.j3, if_true]
      | true =>
        obtain ⟨r1, r2, r3⟩ := draw_ch l d hB (fun x h => (g3 x h).2)
        have ed : wpairs 0 d = prs d := by
          rw [wpairs_small d 0 (by omega) (fun x hx => ⟨(r3 x hx).1, by have := (r3 x hx).2; omega⟩) (by omega)]; omega
        have es : wsum 0 d = d.sum := by
          rw [wsum_small d 0 (by omega) (fun x hx => ⟨(r3 x hx).1, by have := (r3 x hx).2; omega⟩) (by omega)]; omega
        simp only [if_true, Option.bind_some, q3, ed]
        by_cases hge : prs d ≥ a
        · rw [decide_eq_true hge]
          simp only [laws_FnSureExactly.j3, if_true]
        · rw [decide_eq_false hge]
          simp only [laws_FnSureExactly.j3, Bool.false_eq_true, if_false]
          have hle := hW.2.2.2 (prs d).toNat d.sum (by omega) r1
          rw [List.drop_zero, es] at q4
          have q5 : laws_FnSureExactly.l1 m (W l p + 1) 0 d (d.length : Int) 0 = some (decide (d.sum < W l p + 1)) := q4
          rw [q5, decide_eq_true (by omega)]
    obtain ⟨K4, h4⟩ := ex_l0 l g2 g3 l a d (W l p + 1) true _ _ _ hend l.length 0 0 0 0 (by omega) (by omega) (by omega) (by omega) (by omega) (by simp) (by simp) (by simp) (by omega) (by omega) (by omega)
    refine ⟨K1 + K4 + 1 + 1, ?_⟩
    have q1 := h1 (K1 + K4 + 1) (by omega)
    rw [if_pos ⟨hg0, hg1, hg2⟩, e4] at q1
    have q4 := h4 (K1 + K4) (by omega)
    simp only [laws_FnSureExactly.j0, laws_FnSureExactly.j1]
    rw [if_neg Bool.false_ne_true, q1.1, q1.2, Option.bind_some, Option.bind_some]
    simp only [bne_self_eq_false, Bool.false_eq_true, if_false, if_true]
    exact q4
  · refine ⟨K1 + 3, ?_⟩
    have q1 := h1 (K1 + 2) (by omega)
    rw [if_neg hg] at q1
    simp only [laws_FnSureExactly.j0, laws_FnSureExactly.j1]
    rw [if_neg Bool.false_ne_true, q1.1, q1.2, Option.bind_some, Option.bind_some]
    simp

end Go.Proofs.Ytjldifjfgeifcaa.Pure
