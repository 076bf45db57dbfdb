/- Plain lemmas over the printed functions of this seat. -/
import Derived.Test.YthcpjncbedpkdaaY6
import Derived.Test.YthcpjncbedpkdaaY5
set_option linter.unusedVariables false
set_option linter.unusedSimpArgs false
namespace Go.Proofs.Ythcpjncbedpkdaa.Pure
open Go.RowKit Go.Proofs.Ythcpjncbedpkdaa.P Go.Proofs.YthcpjncbedpkdaaW.PrintWords Go.Proofs.YthcpjncbedpkdaaW.PrintLast Go.Proofs.YthcpjncbedpkdaaW.PrintMore

/-! ### the rank of a draw -/
theorem nn_drop (l : List Int) (i M : Nat) : nn (l.drop i) 0 M = nn l i M := by unfold nn; rw [restN_drop]
theorem soDrawsD_ev {l : List Int} (h : GoodL l) (i M : Nat) : Ev (fun k => spec_soDraws.f k (l.drop i) M) (nn l i M : Int) := by
  have := soDraws_ev (goodL_drop h i) M
  rw [nn_drop] at this
  exact this
theorem wsub_ (a b : Nat) (h : b ≤ a) (ha : a ≤ 4000000000000) : wrap64 ((a : Int) - (b : Int)) = ((a - b : Nat) : Int) := by
  rw [wrap_small (by omega) (by omega)]; omega
/-- What is left of a draw from place i on. -/
def leftN (d : List Int) (i : Nat) : Nat := sumN (restN d i)
theorem leftN_step {d : List Int} (i : Nat) (hi : i < d.length) (n : Nat) (hn : d[i] = (n : Int)) : leftN d i = n + leftN d (i + 1) := by
  unfold leftN restN
  rw [List.drop_eq_getElem_cons hi, List.map_cons, sumN, hn]
  rfl
theorem leftN_le (d : List Int) (i : Nat) : leftN d i ≤ leftN d 0 := by
  unfold leftN
  have : ∀ (m : List Nat) (i : Nat), sumN (m.drop i) ≤ sumN m := by
    intro m
    induction m with
    | nil => intro i; simp
    | cons x m ih =>
      intro i
      cases i with
      | zero => simp
      | succ i => have := ih i; simp only [List.drop_succ_cons, sumN]; omega
  have e : (restN d 0).drop i = restN d i := by unfold restN; rw [List.drop_zero, List.map_drop]
  rw [← e]; exact this _ _
theorem rank_in (l d : List Int) (hG : GoodL l) (hD : GoodL d) (he : d.length = l.length) (hle : leftN d 0 ≤ tot l) (i n : Nat) (hi : i < d.length) (hn : d[i] = (n : Int))
    (ho : ∀ x : Int, ∃ r, Ev (fun k => spec_RankOfDraw.l0 k l x (leftN d (i + 1)) d d.length ((i + 1 : Nat) : Int)) r ∧ Ev (fun k => impl_RankOfDraw.l0 k (leftN d (i + 1)) (waysT l (tot l) (prh l)) x d d.length ((i + 1 : Nat) : Int)) r) :
    ∀ (e c : Nat) (x : Int), n - c = e → c ≤ n → ∃ r, Ev (fun k => spec_RankOfDraw.l1 k l x (leftN d i) i n c d d.length i) r ∧ Ev (fun k => impl_RankOfDraw.l1 k (leftN d i) (waysT l (tot l) (prh l)) x i n d d.length i n c) r := by
  have h8 := hG.1
  have ht := tot_le hG
  have hst := leftN_step i hi n hn
  have hl0 := leftN_le d i
  have b1 : i ≤ 4000000000000 := by omega
  have b2 : leftN d i ≤ 4000000000000 := by omega
  have b3 : n ≤ leftN d i := by omega
  have b9 : leftN d i - n = leftN d (i + 1) := by omega
  intro e
  induction e with
  | zero =>
    intro c x hc hcn
    obtain rfl : c = n := by omega
    obtain ⟨r, h1, h2⟩ := ho x
    have q1 : ¬ ((c : Int) < (c : Int)) := by omega
    refine ⟨r, Ev.step h1 (fun k => ?_), Ev.step h2 (fun k => ?_)⟩
    · simp only [spec_RankOfDraw.l1]
      rw [if_neg q1, wsub_ _ _ b3 b2, wadd1_ _ b1, b9]
    · simp only [impl_RankOfDraw.l1]
      rw [if_neg q1, wsub_ _ _ b3 b2, wadd1_ _ b1, b9]
  | succ e ih =>
    intro c x hc hcn
    have hlt : c < n := by omega
    have q1 : (c : Int) < (n : Int) := by omega
    have q2 : (0 : Int) ≤ ((i + 1 : Nat) : Int) := Int.natCast_nonneg _
    have q3 : ((i + 1 : Nat) : Int) ≤ (l.length : Int) := by omega
    have q4 : ((i + 1 : Nat) : Int) < (((waysT l (tot l) (prh l)).length : Nat) : Int) := by rw [waysT_len]; omega
    have q5 : (0 : Int) ≤ ((leftN d i - c : Nat) : Int) := Int.natCast_nonneg _
    have q6 : ((leftN d i - c : Nat) : Int) < (((tabI l (tot l) (prh l) (i + 1)).length : Nat) : Int) := by rw [tabI_len]; omega
    have q7 : rd_L2 (waysT l (tot l) (prh l)) ((i + 1 : Nat) : Int) = tabI l (tot l) (prh l) (i + 1) := waysT_at l _ _ (i + 1) (by omega)
    have q8 : rd_L1 (tabI l (tot l) (prh l) (i + 1)) ((leftN d i - c : Nat) : Int) = rowI l (prh l) (i + 1) (leftN d i - c) := tabI_at _ _ _ _ _ (by omega)
    have b4 : c ≤ leftN d i := by omega
    have b5 : c ≤ 4000000000000 := by omega
    obtain ⟨K1, h1⟩ := soDrawsD_ev hG (i + 1) (leftN d i - c)
    obtain ⟨K2, h2⟩ := row_total hG (i + 1) (leftN d i - c)
    obtain ⟨r, g1, g2⟩ := ih (c + 1) (wrap64 (x + ((nn l (i + 1) (leftN d i - c) : Nat) : Int))) (by omega) (by omega)
    refine ⟨r, Ev.stepFrom g1 K1 (fun k hk => ?_), Ev.stepFrom g2 K2 (fun k hk => ?_)⟩
    · have h1' : spec_soDraws.f k (l.drop (i + 1)) ((leftN d i - c : Nat) : Int) = some ((nn l (i + 1) (leftN d i - c) : Nat) : Int) := h1 k hk
      simp only [spec_RankOfDraw.l1]
      rw [if_pos q1, wadd1_ _ b1, if_pos q2, if_pos q3, Int.toNat_natCast, wsub_ _ _ b4 b2, h1', Option.bind_some, wadd1_ _ b5]
    · have h2' : impl_total.f k (rowI l (prh l) (i + 1) (leftN d i - c)) = some ((nn l (i + 1) (leftN d i - c) : Nat) : Int) := h2 k hk
      simp only [impl_RankOfDraw.l1]
      rw [if_pos q1, wadd1_ _ b1, if_pos q2, if_pos q4, wsub_ _ _ b4 b2, if_pos q5, q7, if_pos q6, q8, h2', Option.bind_some, wadd1_ _ b5]
theorem rank_out (l d : List Int) (hG : GoodL l) (hD : GoodL d) (he : d.length = l.length) (hle : leftN d 0 ≤ tot l) :
    ∀ (e i : Nat), d.length - i = e → i ≤ d.length → ∀ x : Int, ∃ r, Ev (fun k => spec_RankOfDraw.l0 k l x (leftN d i) d d.length i) r ∧ Ev (fun k => impl_RankOfDraw.l0 k (leftN d i) (waysT l (tot l) (prh l)) x d d.length i) r := by
  intro e
  induction e with
  | zero =>
    intro i hi hle2 x
    obtain rfl : i = d.length := by omega
    have q1 : ¬ ((d.length : Int) < (d.length : Int)) := by omega
    refine ⟨(x, true), Ev.now (fun k => ?_), Ev.now (fun k => ?_)⟩
    · simp only [spec_RankOfDraw.l0]
      rw [if_neg q1]
    · simp only [impl_RankOfDraw.l0]
      rw [if_neg q1]
  | succ e ih =>
    intro i hi hle2 x
    have hlt : i < d.length := by omega
    have hmem := hD.2 d[i] (List.getElem_mem hlt)
    obtain ⟨n, hn⟩ : ∃ n : Nat, d[i] = (n : Int) := ⟨d[i].toNat, by omega⟩
    have q1 : (i : Int) < (d.length : Int) := by omega
    have q2 : (0 : Int) ≤ (i : Int) := by omega
    obtain ⟨r, h1, h2⟩ := rank_in l d hG hD he hle i n hlt hn (ih (i + 1) (by omega) (by omega)) n 0 x (by omega) (by omega)
    refine ⟨r, Ev.step h1 (fun k => ?_), Ev.step h2 (fun k => ?_)⟩
    · simp only [spec_RankOfDraw.l0]
      rw [if_pos q1, if_pos q2, if_pos q1, rd_at d i hlt, hn]
      rfl
    · simp only [impl_RankOfDraw.l0]
      rw [if_pos q1, if_pos q2, if_pos q1, rd_at d i hlt, hn]
      rfl
theorem isB_le : ∀ (l d : List Int), (d.length = l.length) → ((d.zip l).all fun p => decide (0 ≤ p.1) && decide (p.1 ≤ p.2)) = true → (∀ x ∈ l, 0 ≤ x ∧ x ≤ 20) → (∀ x ∈ d, 0 ≤ x ∧ x ≤ 20) ∧ sumN (d.map Int.toNat) ≤ sumN (l.map Int.toNat)
  | [], [], _, _, _ => ⟨by simp, Nat.le_refl _⟩
  | y :: l, x :: d, he, h, hl => by
    simp only [List.zip_cons_cons, List.all_cons, Bool.and_eq_true, decide_eq_true_eq] at h
    have hy := hl y (by simp)
    obtain ⟨h1, h2⟩ := isB_le l d (by simpa using he) (by simp only [Bool.and_eq_true, decide_eq_true_eq, List.all_eq_true] at h ⊢; exact h.2) (fun z hz => hl z (by simp [hz]))
    refine ⟨fun z hz => ?_, ?_⟩
    · rcases List.mem_cons.1 hz with e | e
      · subst e; omega
      · exact h1 z e
    · simp only [List.map_cons, sumN]; omega
  | [], _ :: _, he, _, _ => by simp at he
  | _ :: _, [], he, _, _ => by simp at he
theorem RankOfDraw_ev (l d : List Int) (hl : l.length ≤ 1048576) (hd : d.length ≤ 1048576) : ∃ r K, ∀ k, K ≤ k → spec_RankOfDraw.f k l d = some r ∧ impl_RankOfDraw.f k l d = some r := by
  obtain ⟨K1, h1⟩ := soBoth_ev l d hl hd
  obtain ⟨K2, h2⟩ := isDrawB_ev l d hl hd
  cases hb : (goodB l && isB l d) with
  | false =>
    rw [hb] at h1 h2
    refine ⟨(0, false), K1 + K2 + 2, fun k hk => ?_⟩
    obtain ⟨k, rfl⟩ : ∃ j, k = j + 1 := ⟨k - 1, by omega⟩
    have h1' := h1 (k + 1) (by omega)
    have h2' := h2 (k + 1) (by omega)
    constructor
    · unfold spec_RankOfDraw.f
      rw [h1', Option.bind_some, if_neg (by decide)]
      simp only [spec_RankOfDraw.j0, if_true]
    · unfold impl_RankOfDraw.f
      rw [h2', Option.bind_some, if_neg (by decide)]
  | true =>
    rw [hb] at h1 h2
    rw [Bool.and_eq_true] at hb
    obtain ⟨hg, hB⟩ := hb
    have hG := GoodL_of hg
    unfold isB at hB
    rw [Bool.and_eq_true, decide_eq_true_eq] at hB
    obtain ⟨he, hz⟩ := hB
    obtain ⟨hd20, hs⟩ := isB_le l d he hz hG.2
    have hD : GoodL d := ⟨by rw [he]; exact hG.1, hd20⟩
    have hle : leftN d 0 ≤ tot l := by unfold leftN tot restN; rw [List.drop_zero, List.drop_zero]; exact hs
    have htd : tot d = leftN d 0 := rfl
    obtain ⟨K3, h3⟩ := soSumG_ev hD
    obtain ⟨K4, h4⟩ := soDraws_ev hG (tot d)
    obtain ⟨K5, h5⟩ := totalG_ev hD
    obtain ⟨K6, h6⟩ := implCountDraws_ev l hl (tot d)
    obtain ⟨K7, h7⟩ := draws_ev hG
    rw [cdv_good hg] at h6
    have hn := nn_le hG 0 (tot d)
    obtain ⟨r, ⟨K8, h8⟩, ⟨K9, h9⟩⟩ := rank_out l d hG hD he hle d.length 0 (by omega) (by omega) 0
    refine ⟨r, K1 + K2 + K3 + K4 + K5 + K6 + K7 + K8 + K9 + 2, fun k hk => ?_⟩
    obtain ⟨k, rfl⟩ : ∃ j, k = j + 1 := ⟨k - 1, by omega⟩
    have e1 := h1 (k + 1) (by omega)
    have e2 := h2 (k + 1) (by omega)
    have e3 : spec_soSum.f (k + 1) d = some (tot d : Int) := h3 (k + 1) (by omega)
    have e3' : spec_soSum.f k d = some (tot d : Int) := h3 k (by omega)
    have e4 : spec_soDraws.f (k + 1) l (tot d) = some (nn l 0 (tot d) : Int) := h4 (k + 1) (by omega)
    have e5 : impl_total.f (k + 1) d = some (tot d : Int) := h5 (k + 1) (by omega)
    have e6 : impl_CountDraws.f (k + 1) l (tot d) = some ((nn l 0 (tot d) : Int), true) := h6 (k + 1) (by omega)
    have e7 : impl_draws.f (k + 1) l = some (waysT l (tot l) (prh l)) := h7 (k + 1) (by omega)
    have e8 : spec_RankOfDraw.l0 k l 0 (tot d) d d.length 0 = some r := h8 k (by omega)
    have e9 : impl_RankOfDraw.l0 (k + 1) (tot d) (waysT l (tot l) (prh l)) 0 d d.length 0 = some r := h9 (k + 1) (by omega)
    have q : decide ((nn l 0 (tot d) : Int) > 1000000000000) = false := decide_eq_false (by omega)
    constructor
    · unfold spec_RankOfDraw.f
      rw [e1, Option.bind_some, if_pos rfl, e3, Option.bind_some, e4, Option.bind_some, q]
      simp only [spec_RankOfDraw.j0, Bool.false_eq_true, if_false]
      rw [e3', Option.bind_some, e8]
    · unfold impl_RankOfDraw.f
      rw [e2, Option.bind_some, if_pos rfl, e5, Option.bind_some, e6, Option.bind_some, if_pos rfl, e7, Option.bind_some, e9]

end Go.Proofs.Ythcpjncbedpkdaa.Pure
