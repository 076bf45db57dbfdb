/- Plain lemmas over the printed functions of this seat. -/
import Derived.Test.YthcpjncbedpkdaaY7
import Derived.Test.YthcpjncbedpkdaaPx9
set_option linter.unusedVariables false
set_option linter.unusedSimpArgs false
namespace Go.Proofs.Ythcpjncbedpkdaa.Pure
open Go.RowKit Go.Proofs.Ythcpjncbedpkdaa.P Go.Proofs.YthcpjncbedpkdaaW.PrintWords Go.Proofs.YthcpjncbedpkdaaW.PrintLast Go.Proofs.YthcpjncbedpkdaaW.PrintMore

/-! ### the draw of a rank -/
def tm (l : List Int) (i M : Nat) : Nat → Nat := fun d => if d ≤ M then nn l (i + 1) (M - d) else 0
theorem nn_step {l : List Int} (i : Nat) (hi : i < l.length) (n : Nat) (hn : l[i] = (n : Int)) (M : Nat) : nn l i M = sumTo (n + 1) (tm l i M) := by
  have e : restN l i = n :: restN l (i + 1) := by
    unfold restN; rw [List.drop_eq_getElem_cons hi, List.map_cons, hn]; rfl
  unfold nn
  rw [e, cnt_none]
  rfl
theorem dr_in (l : List Int) (hG : GoodL l) (i n M : Nat) (hi : i < l.length) (hn : l[i] = (n : Int)) (hM : M ≤ tot l) (out : List Int) (hout : out.length ≤ i)
    (ho : ∀ (out : List Int) (M R : Nat), out.length ≤ i + 1 → M ≤ tot l → R < nn l (i + 1) M → ∃ r : List Int × Bool, r.1.length ≤ 8 ∧ Ev (fun k => spec_DrawOfRank.l0 k l R out M l l.length ((i + 1 : Nat) : Int)) r ∧ Ev (fun k => impl_DrawOfRank.l0 k M R (waysT l (tot l) (prh l)) out l.length ((i + 1 : Nat) : Int)) r) :
    ∀ (e d R : Nat), n + 1 - d = e → d ≤ n + 1 → R + sumTo d (tm l i M) < sumTo (n + 1) (tm l i M) → ∃ r : List Int × Bool, r.1.length ≤ 8 ∧ Ev (fun k => spec_DrawOfRank.l1 k l R out M i n d l l.length i) r ∧ Ev (fun k => impl_DrawOfRank.l1 k M R (waysT l (tot l) (prh l)) out i d l.length i) r := by
  have h8 := hG.1
  have ht := tot_le hG
  have hnn := nn_le hG i M
  rw [nn_step i hi n hn] at hnn
  have b1 : i ≤ 4000000000000 := by omega
  have b2 : M ≤ 4000000000000 := by omega
  have hn20 : n ≤ 20 := by have := (hG.2 l[i] (List.getElem_mem hi)).2; omega
  intro e
  induction e with
  | zero =>
    intro d R he hd hR
    obtain rfl : d = n + 1 := by omega
    omega
  | succ e ih =>
    intro d R he hd hR
    have hdn : d ≤ n := by omega
    by_cases hdM : d ≤ M
    · have htm : tm l i M d = nn l (i + 1) (M - d) := if_pos hdM
      have q1 : (d : Int) ≤ (n : Int) := by omega
      have q0 : decide ((d : Int) ≤ (M : Int)) = true := decide_eq_true (by omega)
      have q2 : (0 : Int) ≤ ((i + 1 : Nat) : Int) := Int.natCast_nonneg _
      have q3 : ((i + 1 : Nat) : Int) ≤ (l.length : Int) := by omega
      have q4 : ((i + 1 : Nat) : Int) < (((waysT l (tot l) (prh l)).length : Nat) : Int) := by rw [waysT_len]; omega
      have q5 : (0 : Int) ≤ ((M - d : Nat) : Int) := Int.natCast_nonneg _
      have q6 : ((M - d : Nat) : Int) < (((tabI l (tot l) (prh l) (i + 1)).length : Nat) : Int) := by rw [tabI_len]; omega
      have q7 : rd_L2 (waysT l (tot l) (prh l)) ((i + 1 : Nat) : Int) = tabI l (tot l) (prh l) (i + 1) := waysT_at l _ _ (i + 1) (by omega)
      have q8 : rd_L1 (tabI l (tot l) (prh l) (i + 1)) ((M - d : Nat) : Int) = rowI l (prh l) (i + 1) (M - d) := tabI_at _ _ _ _ _ (by omega)
      have q9 : out.length < 17592186044416 := by omega
      have b5 : d ≤ 4000000000000 := by omega
      have b6 : R ≤ 4000000000000 := by omega
      obtain ⟨K1, h1⟩ := soDrawsD_ev hG (i + 1) (M - d)
      obtain ⟨K2, h2⟩ := row_total hG (i + 1) (M - d)
      have hj3 : ∀ r, Ev (fun k => spec_DrawOfRank.j3 k l R out M i n d l l.length i true) r → Ev (fun k => spec_DrawOfRank.l1 k l R out M i n d l l.length i) r := by
        intro r hr
        refine Ev.step hr (fun k => ?_)
        simp only [spec_DrawOfRank.l1]
        rw [if_pos q1, q0]
      by_cases hlt : R < nn l (i + 1) (M - d)
      · have c1 : (R : Int) < ((nn l (i + 1) (M - d) : Nat) : Int) := by omega
        have c2 : ¬ (((nn l (i + 1) (M - d) : Nat) : Int) ≤ (R : Int)) := by omega
        obtain ⟨r, hr, g1, g2⟩ := ho (out ++ [(d : Int)]) (M - d) R (by rw [List.length_append]; simp; omega) (by omega) hlt
        refine ⟨r, hr, hj3 r (Ev.stepFrom g1 K1 (fun k hk => ?_)), Ev.stepFrom g2 K2 (fun k hk => ?_)⟩
        · have h1' : spec_soDraws.f k (l.drop (i + 1)) ((M - d : Nat) : Int) = some ((nn l (i + 1) (M - d) : Nat) : Int) := h1 k hk
          simp only [spec_DrawOfRank.j3, if_true]
          rw [wadd1_ _ b1, if_pos q2, if_pos q3, Int.toNat_natCast, wsub_ _ _ hdM b2, h1', Option.bind_some, if_pos c1, if_pos q9]
        · have h2' : impl_total.f k (rowI l (prh l) (i + 1) (M - d)) = some ((nn l (i + 1) (M - d) : Nat) : Int) := h2 k hk
          simp only [impl_DrawOfRank.l1]
          rw [wadd1_ _ b1, if_pos q2, if_pos q4, wsub_ _ _ hdM b2, if_pos q5, q7, if_pos q6, q8, h2', Option.bind_some, if_neg c2, if_pos q9]
      · have c1 : ¬ ((R : Int) < ((nn l (i + 1) (M - d) : Nat) : Int)) := by omega
        have c2 : ((nn l (i + 1) (M - d) : Nat) : Int) ≤ (R : Int) := by omega
        have c3 : nn l (i + 1) (M - d) ≤ R := by omega
        obtain ⟨r, hr, g1, g2⟩ := ih (d + 1) (R - nn l (i + 1) (M - d)) (by omega) (by omega) (by show R - _ + (sumTo d (tm l i M) + tm l i M d) < _; rw [htm]; omega)
        refine ⟨r, hr, hj3 r (Ev.stepFrom g1 K1 (fun k hk => ?_)), Ev.stepFrom g2 K2 (fun k hk => ?_)⟩
        · have h1' : spec_soDraws.f k (l.drop (i + 1)) ((M - d : Nat) : Int) = some ((nn l (i + 1) (M - d) : Nat) : Int) := h1 k hk
          simp only [spec_DrawOfRank.j3, if_true]
          rw [wadd1_ _ b1, if_pos q2, if_pos q3, Int.toNat_natCast, wsub_ _ _ hdM b2, h1', Option.bind_some, if_neg c1, wsub_ _ _ c3 b6, wadd1_ _ b5]
        · have h2' : impl_total.f k (rowI l (prh l) (i + 1) (M - d)) = some ((nn l (i + 1) (M - d) : Nat) : Int) := h2 k hk
          simp only [impl_DrawOfRank.l1]
          rw [wadd1_ _ b1, if_pos q2, if_pos q4, wsub_ _ _ hdM b2, if_pos q5, q7, if_pos q6, q8, h2', Option.bind_some, if_pos c2, Option.bind_some, wsub_ _ _ c3 b6, wadd1_ _ b5]
    · exfalso
      have hz : sumTo (n + 1) (tm l i M) = sumTo d (tm l i M) := sumTo_more _ _ _ hd (fun x hx _ => if_neg (by omega))
      omega
theorem dr_out (l : List Int) (hG : GoodL l) : ∀ (e i : Nat), l.length - i = e → i ≤ l.length → ∀ (out : List Int) (M R : Nat), out.length ≤ i → M ≤ tot l → R < nn l i M →
    ∃ r : List Int × Bool, r.1.length ≤ 8 ∧ Ev (fun k => spec_DrawOfRank.l0 k l R out M l l.length i) r ∧ Ev (fun k => impl_DrawOfRank.l0 k M R (waysT l (tot l) (prh l)) out l.length i) r := by
  have h8 := hG.1
  intro e
  induction e with
  | zero =>
    intro i he hi out M R hout hM hR
    obtain rfl : i = l.length := by omega
    have q1 : ¬ ((l.length : Int) < (l.length : Int)) := by omega
    refine ⟨(out, true), by show out.length ≤ 8; omega, Ev.now (fun k => ?_), Ev.now (fun k => ?_)⟩
    · simp only [spec_DrawOfRank.l0]
      rw [if_neg q1]
    · simp only [impl_DrawOfRank.l0]
      rw [if_neg q1]
  | succ e ih =>
    intro i he hi out M R hout hM hR
    have hlt : i < l.length := by omega
    have hmem := hG.2 l[i] (List.getElem_mem hlt)
    obtain ⟨n, hn⟩ : ∃ n : Nat, l[i] = (n : Int) := ⟨l[i].toNat, by omega⟩
    have q1 : (i : Int) < (l.length : Int) := by omega
    have q2 : (0 : Int) ≤ (i : Int) := by omega
    rw [nn_step i hlt n hn] at hR
    obtain ⟨r, hr, h1, h2⟩ := dr_in l hG i n M hlt hn hM out hout (fun out M R h1 h2 h3 => ih (i + 1) (by omega) (by omega) out M R h1 h2 h3) (n + 1) 0 R (by omega) (by omega) (by show R + 0 < _; omega)
    refine ⟨r, hr, Ev.step h1 (fun k => ?_), Ev.step h2 (fun k => ?_)⟩
    · simp only [spec_DrawOfRank.l0]
      rw [if_pos q1, if_pos q2, if_pos q1, rd_at l i hlt, hn]
      rfl
    · simp only [impl_DrawOfRank.l0]
      rw [if_pos q1]
      rfl
theorem DrawOfRank_ev (l : List Int) (a b : Int) (hl : l.length ≤ 1048576) : ∃ r K, r.1.length ≤ 1048576 ∧ ∀ k, K ≤ k → spec_DrawOfRank.f k l a b = some r ∧ impl_DrawOfRank.f k l a b = some r := by
  obtain ⟨K1, h1⟩ := specCountDraws_ev l hl a
  obtain ⟨K2, h2⟩ := implCountDraws_ev l hl a
  by_cases hga : goodB l = true ∧ 0 ≤ a
  · obtain ⟨hg, ha⟩ := hga
    have hG := GoodL_of hg
    obtain ⟨M, rfl⟩ := Int.eq_ofNat_of_zero_le ha
    rw [cdv_good hg] at h1 h2
    have hn := nn_le hG 0 M
    have b1 : -9223372036854775808 ≤ ((nn l 0 M : Nat) : Int) - 1 := by omega
    have b2 : ((nn l 0 M : Nat) : Int) - 1 ≤ 9223372036854775807 := by omega
    by_cases hb : 0 ≤ b ∧ b < ((nn l 0 M : Nat) : Int)
    · obtain ⟨hb0, hb1⟩ := hb
      obtain ⟨R, rfl⟩ := Int.eq_ofNat_of_zero_le hb0
      have hM : M ≤ tot l := by
        by_cases hM : M ≤ tot l
        · exact hM
        · have hz : nn l 0 M = 0 := cnt_zero_k none_ _ _ _ (by show tot l < M; omega)
          omega
      obtain ⟨K3, h3⟩ := draws_ev hG
      obtain ⟨r, hr, ⟨K4, h4⟩, ⟨K5, h5⟩⟩ := dr_out l hG l.length 0 (by omega) (by omega) [] M R (by simp) hM (by omega)
      refine ⟨r, K1 + K2 + K3 + K4 + K5 + 2, by omega, fun k hk => ?_⟩
      obtain ⟨k, rfl⟩ : ∃ j, k = j + 1 := ⟨k - 1, by omega⟩
      have e1 : spec_CountDraws.f (k + 1) l M = _ := h1 (k + 1) (by omega)
      have e2 : impl_CountDraws.f (k + 1) l M = _ := h2 (k + 1) (by omega)
      have e3 : impl_draws.f k l = some (waysT l (tot l) (prh l)) := h3 k (by omega)
      have e4 : spec_DrawOfRank.l0 k l R [] M l l.length 0 = some r := h4 k (by omega)
      have e5 : impl_DrawOfRank.l0 k M R (waysT l (tot l) (prh l)) [] l.length 0 = some r := h5 k (by omega)
      have q1 : ¬ ((R : Int) < 0) := by omega
      have q2 : decide ((R : Int) ≥ ((nn l 0 M : Nat) : Int)) = false := decide_eq_false (by omega)
      have q3 : (decide ((0 : Int) ≤ (R : Int)) && decide ((R : Int) ≤ ((nn l 0 M : Nat) : Int) - 1)) = true := by
        rw [Bool.and_eq_true, decide_eq_true_eq, decide_eq_true_eq]; omega
      constructor
      · unfold spec_DrawOfRank.f
        rw [e1, Option.bind_some, if_pos rfl, if_neg q1, q2]
        simp only [spec_DrawOfRank.j0, Bool.false_eq_true, if_false]
        exact e4
      · unfold impl_DrawOfRank.f
        rw [e2, Option.bind_some, if_pos rfl, wrap_small b1 b2, within_eq, q3, Option.bind_some]
        simp only [impl_DrawOfRank.j0, Bool.not_true, Bool.false_eq_true, if_false]
        rw [e3, Option.bind_some, e5]
    · refine ⟨([], false), K1 + K2 + 2, by simp, fun k hk => ?_⟩
      obtain ⟨k, rfl⟩ : ∃ j, k = j + 1 := ⟨k - 1, by omega⟩
      have e1 : spec_CountDraws.f (k + 1) l M = _ := h1 (k + 1) (by omega)
      have e2 : impl_CountDraws.f (k + 1) l M = _ := h2 (k + 1) (by omega)
      have q3 : (decide ((0 : Int) ≤ b) && decide (b ≤ ((nn l 0 M : Nat) : Int) - 1)) = false := by
        rw [Bool.and_eq_false_iff, decide_eq_false_iff_not, decide_eq_false_iff_not]; omega
      constructor
      · unfold spec_DrawOfRank.f
        rw [e1, Option.bind_some, if_pos rfl]
        by_cases q1 : b < 0
        · rw [if_pos q1]
          simp only [spec_DrawOfRank.j0, if_true]
        · have q2 : decide (b ≥ ((nn l 0 M : Nat) : Int)) = true := decide_eq_true (by omega)
          rw [if_neg q1, q2]
          simp only [spec_DrawOfRank.j0, if_true]
      · unfold impl_DrawOfRank.f
        rw [e2, Option.bind_some, if_pos rfl, wrap_small b1 b2, within_eq, q3, Option.bind_some]
        simp only [impl_DrawOfRank.j0, Bool.not_false, if_true]
  · rw [cdv_bad hga] at h1 h2
    refine ⟨([], false), K1 + K2 + 2, by simp, fun k hk => ?_⟩
    obtain ⟨k, rfl⟩ : ∃ j, k = j + 1 := ⟨k - 1, by omega⟩
    have e1 : spec_CountDraws.f (k + 1) l a = _ := h1 (k + 1) (by omega)
    have e2 : impl_CountDraws.f (k + 1) l a = _ := h2 (k + 1) (by omega)
    constructor
    · unfold spec_DrawOfRank.f
      rw [e1, Option.bind_some, if_neg (by decide)]
      simp only [spec_DrawOfRank.j0, if_true]
    · unfold impl_DrawOfRank.f
      rw [e2, Option.bind_some, if_neg (by decide)]
      simp only [impl_DrawOfRank.j0, if_true]

end Go.Proofs.Ythcpjncbedpkdaa.Pure
