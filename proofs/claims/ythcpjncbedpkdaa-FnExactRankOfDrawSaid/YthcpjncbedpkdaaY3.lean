/- Plain lemmas over the printed functions of this seat. -/
import Derived.Test.YthcpjncbedpkdaaY2
import Derived.Test.YthcpjncbedpkdaaPx2
set_option linter.unusedVariables false
set_option linter.unusedSimpArgs false
namespace Go.Proofs.Ythcpjncbedpkdaa.Pure
open Go.RowKit Go.Proofs.Ythcpjncbedpkdaa.P Go.Proofs.YthcpjncbedpkdaaW.PrintWords Go.Proofs.YthcpjncbedpkdaaW.PrintLast Go.Proofs.YthcpjncbedpkdaaW.PrintMore

/-! ### the counts of draws, both ways -/
theorem GoodL_of {l : List Int} (h : goodB l = true) : GoodL l := by
  obtain ⟨_, h1, h2, _⟩ := goodB_iff.1 h
  exact ⟨h1, h2⟩
theorem goodL_drop {l : List Int} (h : GoodL l) (i : Nat) : GoodL (l.drop i) :=
  ⟨by rw [List.length_drop]; have := h.1; omega, fun x hx => h.2 x (List.mem_of_mem_drop hx)⟩
theorem goodL_all {l : List Int} (h : GoodL l) : allIn 0 20 l = true := allIn_iff.2 h.2
theorem sum_sumN : ∀ l : List Int, (∀ x ∈ l, 0 ≤ x) → l.sum = (sumN (l.map Int.toNat) : Int)
  | [], _ => rfl
  | x :: l, h => by
    have hx := h x (by simp)
    have := sum_sumN l (fun y hy => h y (by simp [hy]))
    simp only [List.sum_cons, List.map_cons, sumN, Int.natCast_add]
    omega
theorem prs_sumH : ∀ l : List Int, (∀ x ∈ l, 0 ≤ x) → prs l = (sumH (l.map Int.toNat) : Int)
  | [], _ => rfl
  | x :: l, h => by
    have hx := h x (by simp)
    have := prs_sumH l (fun y hy => h y (by simp [hy]))
    unfold prs at this ⊢
    simp only [List.map_cons, List.sum_cons, sumH, Int.natCast_add]
    omega
theorem restN_drop (l : List Int) (i : Nat) : restN (l.drop i) 0 = restN l i := by unfold restN; rw [List.drop_zero]
def tot (l : List Int) : Nat := sumN (restN l 0)
def prh (l : List Int) : Nat := sumH (restN l 0)
theorem tot_sum {l : List Int} (h : GoodL l) : l.sum = (tot l : Int) := by
  unfold tot restN; rw [List.drop_zero]; exact sum_sumN l (fun x hx => (h.2 x hx).1)
theorem tot_le {l : List Int} (h : GoodL l) : tot l ≤ 160 := by
  have h1 := sum_bounds l 20 h.2
  have h2 := tot_sum h
  have h3 := h.1
  omega
theorem sumH_le : ∀ l : List Nat, sumH l ≤ sumN l / 2
  | [] => by simp [sumH]
  | x :: l => by
    have := sumH_le l
    simp only [sumH, sumN]; omega
theorem prh_le {l : List Int} (h : GoodL l) : prh l ≤ 80 := by
  have h1 := sumH_le (restN l 0)
  have h2 := tot_le h
  unfold tot at h2
  unfold prh; omega
theorem soSumG_ev {l : List Int} (h : GoodL l) : Ev (fun k => spec_soSum.f k l) (tot l : Int) := by
  have h1 := h.1
  obtain ⟨K, hK⟩ := soSum_ev l (by omega)
  exact ⟨K, fun k hk => (hK k hk).trans (by rw [good_sum l h.1 (goodL_all h), tot_sum h])⟩
theorem totalG_ev {l : List Int} (h : GoodL l) : Ev (fun k => impl_total.f k l) (tot l : Int) := by
  have h1 := h.1
  obtain ⟨K, hK⟩ := total_ev l (by omega)
  exact ⟨K, fun k hk => (hK k hk).trans (by rw [good_sum l h.1 (goodL_all h), tot_sum h])⟩
theorem pairsG_ev {l : List Int} (h : GoodL l) : Ev (fun k => impl_pairsOf.f k l) (prh l : Int) := by
  have h1 := h.1
  obtain ⟨K, hK⟩ := pairsOf_ev l (by omega)
  refine ⟨K, fun k hk => (hK k hk).trans ?_⟩
  rw [wpairs_small l 0 (by omega) (fun x hx => ⟨(h.2 x hx).1, by have := (h.2 x hx).2; omega⟩) (by omega), prs_sumH l (fun x hx => (h.2 x hx).1), Int.zero_add]
  unfold prh restN; rw [List.drop_zero]
theorem soPairsG_ev {l : List Int} (h : GoodL l) : Ev (fun k => spec_soPairs.f k l) (prh l : Int) := by
  have h1 := h.1
  obtain ⟨K, hK⟩ := soPairs_ev l (by omega)
  refine ⟨K, fun k hk => (hK k hk).trans ?_⟩
  rw [wpairs_small l 0 (by omega) (fun x hx => ⟨(h.2 x hx).1, by have := (h.2 x hx).2; omega⟩) (by omega), prs_sumH l (fun x hx => (h.2 x hx).1), Int.zero_add]
  unfold prh restN; rw [List.drop_zero]
/-- How many draws of M socks of the colours from i on there are. -/
def nn (l : List Int) (i M : Nat) : Nat := cnt none_ (restN l i) M 0
theorem nn_le {l : List Int} (h : GoodL l) (i M : Nat) : nn l i M ≤ 37822859361 :=
  Nat.le_trans (cnt_le none_ _ (restN_le h i) _ _) (pow_le8 _ (by rw [restN_len]; have := h.1; omega))
theorem soDraws_ev {l : List Int} (h : GoodL l) (M : Nat) : Ev (fun k => spec_soDraws.f k l M) (nn l 0 M : Int) := by
  obtain ⟨K1, h1⟩ := soSumG_ev h
  by_cases hM : M > tot l
  · have hz : nn l 0 M = 0 := cnt_zero_k none_ _ _ _ hM
    refine ⟨K1, fun k hk => ?_⟩
    have h1' : spec_soSum.f k l = some (tot l : Int) := h1 k hk
    have q : (M : Int) > (tot l : Int) := by omega
    show spec_soDraws.f k l M = _
    unfold spec_soDraws.f
    rw [h1', Option.bind_some, if_pos q, hz]; rfl
  · have ht := tot_le h
    obtain ⟨K2, h2⟩ := soCounts_ev l h M 0 (-1) none_ ⟨by omega, by omega, .inl ⟨rfl, rfl, rfl⟩⟩
    refine ⟨K1 + K2, fun k hk => ?_⟩
    have h1' : spec_soSum.f k l = some (tot l : Int) := h1 k (by omega)
    have h2' : spec_soCounts.f k l M (-1) = some (nn l 0 M : Int) := h2 k (by omega)
    have q : ¬ ((M : Int) > (tot l : Int)) := by omega
    show spec_soDraws.f k l M = _
    unfold spec_soDraws.f
    rw [h1', Option.bind_some, if_neg q, h2', Option.bind_some]
theorem draws_ev {l : List Int} (h : GoodL l) : Ev (fun k => impl_draws.f k l) (waysT l (tot l) (prh l)) := by
  obtain ⟨K1, h1⟩ := totalG_ev h
  obtain ⟨K2, h2⟩ := pairsG_ev h
  have ht := tot_le h
  have hp := prh_le h
  refine ⟨K1 + K2, fun k hk => ?_⟩
  have h1' : impl_total.f k l = some (tot l : Int) := h1 k (by omega)
  have h2' : impl_pairsOf.f k l = some (prh l : Int) := h2 k (by omega)
  show impl_draws.f k l = _
  unfold impl_draws.f
  rw [h1', Option.bind_some, h2', Option.bind_some, if_pos ⟨h, by omega, by omega, by omega, by omega⟩, Int.toNat_natCast, Int.toNat_natCast]
theorem waysT_len (l : List Int) (a p : Nat) : (waysT l a p).length = l.length + 1 := by simp [waysT]
def tabI (l : List Int) (a p i : Nat) : List (List Int) := (List.range (a + 1)).map fun k => (List.range (p + 1)).map fun q => tabT l i k q
def rowI (l : List Int) (p i k : Nat) : List Int := (List.range (p + 1)).map fun q => tabT l i k q
theorem waysT_at (l : List Int) (a p i : Nat) (h : i ≤ l.length) : rd_L2 (waysT l a p) (i : Int) = tabI l a p i := by
  have : i < l.length + 1 := by omega
  simp [rd_L2, waysT, tabI, List.getD_eq_getElem?_getD, this]
theorem tabI_len (l : List Int) (a p i : Nat) : (tabI l a p i).length = a + 1 := by simp [tabI]
theorem tabI_at (l : List Int) (a p i k : Nat) (h : k ≤ a) : rd_L1 (tabI l a p i) (k : Int) = rowI l p i k := by
  have : k < a + 1 := by omega
  simp [rd_L1, rowI, tabI, List.getD_eq_getElem?_getD, this]
theorem rowI_len (l : List Int) (p i k : Nat) : (rowI l p i k).length = p + 1 := by simp [rowI]
theorem rowI_at (l : List Int) (p i k q : Nat) (h : q ≤ p) : rd (rowI l p i k) (q : Int) = tabT l i k q := by
  have : q < p + 1 := by omega
  simp [rd, rowI, List.getD_eq_getElem?_getD, this]
theorem wsum_nn : ∀ (l : List Int) (a : Int), 0 ≤ a → (∀ x ∈ l, 0 ≤ x) → a + l.sum ≤ 9223372036854775807 → wsum a l = a + l.sum
  | [], a, _, _, _ => by simp [wsum]
  | x :: l, a, h0, h, hb => by
    have hx := h x (by simp)
    have hl : 0 ≤ l.sum := by
      clear hb
      induction l with
      | nil => simp
      | cons y l ih =>
        have hy := h y (by simp)
        have := ih (fun z hz => h z (by rcases List.mem_cons.1 hz with e | e <;> simp [e]))
        rw [List.sum_cons]; omega
    rw [List.sum_cons] at hb
    rw [wsum_cons, List.sum_cons, wrap_small (by omega) (by omega), wsum_nn l (a + x) (by omega) (fun y hy => h y (by simp [hy])) (by omega)]
    omega
theorem sum_rangeN (g : Nat → Nat) : ∀ m : Nat, ((List.range m).map fun q => (g q : Int)).sum = (sumTo m g : Int)
  | 0 => rfl
  | m + 1 => by
    rw [List.range_succ, List.map_append, List.sum_append, sum_rangeN g m]
    simp [sumTo]
theorem row_total {l : List Int} (h : GoodL l) (i k : Nat) : Ev (fun n => impl_total.f n (rowI l (prh l) i k)) (nn l i k : Int) := by
  have hp := prh_le h
  have hn := nn_le h i k
  have hsum : (rowI l (prh l) i k).sum = (nn l i k : Int) := by
    unfold rowI tabT
    rw [sum_rangeN, cnt_sum (restN l i) k (prh l)]
    · rfl
    · left
      have : ∀ (m : List Nat) (i : Nat), sumH (m.drop i) ≤ sumH m := by
        intro m
        induction m with
        | nil => intro i; simp
        | cons x m ih =>
          intro i
          cases i with
          | zero => simp
          | succ i => have := ih i; simp only [List.drop_succ_cons, sumH]; omega
      have h2 := this (restN l 0) i
      unfold prh
      have e : (restN l 0).drop i = restN l i := by unfold restN; rw [List.drop_zero, List.map_drop]
      rw [← e]; exact h2
  obtain ⟨K, hK⟩ := total_ev (rowI l (prh l) i k) (by rw [rowI_len]; omega)
  refine ⟨K, fun n hn' => (hK n hn').trans ?_⟩
  rw [wsum_nn _ _ (by omega) (fun x hx => ?_) (by rw [hsum]; omega), hsum, Int.zero_add]
  obtain ⟨q, _, rfl⟩ := List.mem_map.1 hx
  exact Int.natCast_nonneg _
/-- What CountDraws says. -/
def cdv (l : List Int) (a : Int) : Int × Bool := if goodB l = true ∧ 0 ≤ a then ((nn l 0 a.toNat : Nat), true) else (0, false)
theorem specCountDraws_ev (l : List Int) (hl : l.length ≤ 1048576) (a : Int) : Ev (fun k => spec_CountDraws.f k l a) (cdv l a) := by
  obtain ⟨K1, h1⟩ := soGood_ev l (by omega)
  unfold cdv
  by_cases hg : goodB l = true
  · by_cases ha : 0 ≤ a
    · obtain ⟨M, rfl⟩ := Int.eq_ofNat_of_zero_le ha
      obtain ⟨K2, h2⟩ := soDraws_ev (GoodL_of hg) M
      have hn := nn_le (GoodL_of hg) 0 M
      rw [if_pos ⟨hg, ha⟩, Int.toNat_natCast]
      refine ⟨K1 + K2 + 2, fun k hk => ?_⟩
      obtain ⟨k, rfl⟩ : ∃ j, k = j + 1 := ⟨k - 1, by omega⟩
      have h2' : spec_soDraws.f k l M = some (nn l 0 M : Int) := h2 k (by omega)
      have q : ¬ ((nn l 0 M : Int) > 1000000000000) := by omega
      have q2 : decide ((M : Int) < 0) = false := decide_eq_false (by omega)
      show spec_CountDraws.f (k + 1) l M = _
      unfold spec_CountDraws.f
      rw [h1 _ (by omega), Option.bind_some, hg, if_pos rfl, q2]
      simp only [spec_CountDraws.j0, Bool.false_eq_true, if_false]
      rw [h2', Option.bind_some, if_neg q]
    · rw [if_neg (fun h => ha h.2)]
      refine ⟨K1 + 2, fun k hk => ?_⟩
      obtain ⟨k, rfl⟩ : ∃ j, k = j + 1 := ⟨k - 1, by omega⟩
      have q2 : decide (a < 0) = true := decide_eq_true (by omega)
      show spec_CountDraws.f (k + 1) l a = _
      unfold spec_CountDraws.f
      rw [h1 _ (by omega), Option.bind_some, hg, if_pos rfl, q2]
      simp only [spec_CountDraws.j0, if_true]
  · rw [if_neg (fun h => hg h.1)]
    refine ⟨K1 + 2, fun k hk => ?_⟩
    obtain ⟨k, rfl⟩ : ∃ j, k = j + 1 := ⟨k - 1, by omega⟩
    show spec_CountDraws.f (k + 1) l a = _
    unfold spec_CountDraws.f
    rw [h1 _ (by omega), Option.bind_some, if_neg hg]
    simp only [spec_CountDraws.j0, if_true]
theorem implCountDraws_ev (l : List Int) (hl : l.length ≤ 1048576) (a : Int) : Ev (fun k => impl_CountDraws.f k l a) (cdv l a) := by
  obtain ⟨K1, h1⟩ := AreSocks_ev l (by omega)
  unfold cdv
  by_cases hg : goodB l = true
  · by_cases ha : 0 ≤ a
    · obtain ⟨M, rfl⟩ := Int.eq_ofNat_of_zero_le ha
      have hG := GoodL_of hg
      obtain ⟨K2, h2⟩ := totalG_ev hG
      obtain ⟨K3, h3⟩ := draws_ev hG
      obtain ⟨K4, h4⟩ := row_total hG 0 M
      have hn := nn_le hG 0 M
      rw [if_pos ⟨hg, ha⟩, Int.toNat_natCast]
      refine ⟨K1 + K2 + K3 + K4 + 2, fun k hk => ?_⟩
      obtain ⟨k, rfl⟩ : ∃ j, k = j + 1 := ⟨k - 1, by omega⟩
      have h2' : impl_total.f k l = some (tot l : Int) := h2 k (by omega)
      have h3' : impl_draws.f k l = some (waysT l (tot l) (prh l)) := h3 k (by omega)
      have h4' : impl_total.f k (rowI l (prh l) 0 M) = some (nn l 0 M : Int) := h4 k (by omega)
      have q : ¬ ((nn l 0 M : Int) > 1000000000000) := by omega
      have q2 : decide ((M : Int) < 0) = false := decide_eq_false (by omega)
      show impl_CountDraws.f (k + 1) l M = _
      unfold impl_CountDraws.f
      rw [h1 _ (by omega), Option.bind_some, hg, if_pos rfl, q2]
      simp only [impl_CountDraws.j0, Bool.false_eq_true, if_false]
      rw [h2', Option.bind_some]
      by_cases hM : M > tot l
      · have hz : nn l 0 M = 0 := cnt_zero_k none_ _ _ _ hM
        rw [if_pos (by omega), hz]; rfl
      · have q3 : ¬ ((M : Int) > (tot l : Int)) := by omega
        have q4 : (0 : Int) < (((waysT l (tot l) (prh l)).length : Nat) : Int) := by rw [waysT_len]; omega
        have q5 : rd_L2 (waysT l (tot l) (prh l)) 0 = tabI l (tot l) (prh l) 0 := waysT_at l _ _ 0 (Nat.zero_le _)
        have q6 : (M : Int) < (((tabI l (tot l) (prh l) 0).length : Nat) : Int) := by rw [tabI_len]; omega
        rw [if_neg q3, h3', Option.bind_some, if_pos q4, if_pos ha, q5, if_pos q6, tabI_at _ _ _ _ _ (by omega), h4', Option.bind_some, if_neg q]
    · rw [if_neg (fun h => ha h.2)]
      refine ⟨K1 + 2, fun k hk => ?_⟩
      obtain ⟨k, rfl⟩ : ∃ j, k = j + 1 := ⟨k - 1, by omega⟩
      have q2 : decide (a < 0) = true := decide_eq_true (by omega)
      show impl_CountDraws.f (k + 1) l a = _
      unfold impl_CountDraws.f
      rw [h1 _ (by omega), Option.bind_some, hg, if_pos rfl, q2]
      simp only [impl_CountDraws.j0, if_true]
  · rw [if_neg (fun h => hg h.1)]
    refine ⟨K1 + 2, fun k hk => ?_⟩
    obtain ⟨k, rfl⟩ : ∃ j, k = j + 1 := ⟨k - 1, by omega⟩
    show impl_CountDraws.f (k + 1) l a = _
    unfold impl_CountDraws.f
    rw [h1 _ (by omega), Option.bind_some, if_neg hg]
    simp only [impl_CountDraws.j0, if_true]

end Go.Proofs.Ythcpjncbedpkdaa.Pure
