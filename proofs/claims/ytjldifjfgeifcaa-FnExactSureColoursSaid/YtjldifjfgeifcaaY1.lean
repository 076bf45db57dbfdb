/- Plain lemmas over the printed functions of this seat. -/
import Derived.Test.YtjldifjfgeifcaaY0
import Derived.Test.YtjldifjfgeifcaaPx1
set_option linter.unusedVariables false
set_option linter.unusedSimpArgs false
namespace Go.Proofs.Ytjldifjfgeifcaa.Pure
open Go.RowKit Go.Proofs.Ytjldifjfgeifcaa.P Go.Proofs.YtjldifjfgeifcaaW.PrintWords Go.Proofs.YtjldifjfgeifcaaW.PrintLast Go.Proofs.YtjldifjfgeifcaaW.PrintMore

/-! ### 'from some number of rounds on' -/
def Ev {α : Type} (f : Nat → Option α) (r : α) : Prop := ∃ K, ∀ k, K ≤ k → f k = some r
theorem Ev.step {α : Type} {f g : Nat → Option α} {r : α} (e : Ev g r) (h : ∀ k, f (k + 1) = g k) : Ev f r := by
  obtain ⟨K, hK⟩ := e
  refine ⟨K + 1, fun k hk => ?_⟩
  obtain ⟨m, rfl⟩ : ∃ m, k = m + 1 := ⟨k - 1, by omega⟩
  rw [h]; exact hK m (by omega)
theorem Ev.stepFrom {α : Type} {f g : Nat → Option α} {r : α} (e : Ev g r) (K0 : Nat) (h : ∀ k, K0 ≤ k → f (k + 1) = g k) : Ev f r := by
  obtain ⟨K, hK⟩ := e
  refine ⟨K + K0 + 1, fun k hk => ?_⟩
  obtain ⟨m, rfl⟩ : ∃ m, k = m + 1 := ⟨k - 1, by omega⟩
  rw [h m (by omega)]; exact hK m (by omega)
theorem Ev.now {α : Type} {f : Nat → Option α} {r : α} (h : ∀ k, f (k + 1) = some r) : Ev f r := by
  refine ⟨1, fun k hk => ?_⟩
  obtain ⟨m, rfl⟩ : ∃ m, k = m + 1 := ⟨k - 1, by omega⟩
  exact h m

/-! ### the nonzero counts in order -/
theorem srtLe (l : List Int) : List.Pairwise (fun x y : Int => x ≤ y) (l.mergeSort fun x y => decide (x ≤ y)) := by
  have h := List.pairwise_mergeSort (le := fun x y : Int => decide (x ≤ y)) (fun a b c h1 h2 => by simp only [decide_eq_true_eq] at *; omega) (fun a b => by simp only [Bool.or_eq_true, decide_eq_true_eq]; omega) l
  exact h.imp (fun h => by simpa using h)
theorem nzSV_le_sorted (l : List Int) : List.Pairwise (fun x y : Int => x ≤ y) (nzSV l) := (srtLe l).filter _
theorem nzSV_perm (l : List Int) : List.Perm (nzSV l) (nzV l) := (List.mergeSort_perm l _).filter _
theorem nzSV_mem (l : List Int) (x : Int) : x ∈ nzSV l ↔ x ∈ l ∧ x ≠ 0 := by
  rw [(nzSV_perm l).mem_iff]
  simp [nzV, List.mem_filter]
theorem nz_set (l : List Int) (b : Nat) (hb : b < l.length) (hm : l[b] ≠ 0) : List.Perm (nzV l) (l[b] :: nzV (l.set b 0)) := by
  have e1 : l.set b 0 = l.take b ++ 0 :: l.drop (b + 1) := by rw [List.set_eq_take_append_cons_drop, if_pos hb]
  have e2 : l = l.take b ++ l[b] :: l.drop (b + 1) := by
    have := List.take_append_drop b l
    rw [List.drop_eq_getElem_cons hb] at this
    exact this.symm
  have e3 : nzV l = nzV (l.take b) ++ l[b] :: nzV (l.drop (b + 1)) := by
    refine (congrArg nzV e2).trans ?_
    unfold nzV
    rw [List.filter_append, List.filter_cons, if_pos (by simpa using hm)]
  have e4 : nzV (l.set b 0) = nzV (l.take b) ++ nzV (l.drop (b + 1)) := by
    rw [e1]
    simp [nzV, List.filter_append]
  rw [e3, e4]
  exact List.perm_middle
theorem nzSV_step (l : List Int) (b : Nat) (hb : b < l.length) (hmax : ∀ x ∈ l, x ≤ l[b]) (hm : l[b] ≠ 0) : nzSV l = nzSV (l.set b 0) ++ [l[b]] := by
  have hp : List.Perm (nzSV l) (nzSV (l.set b 0) ++ [l[b]]) := by
    refine (nzSV_perm l).trans ((nz_set l b hb hm).trans ?_)
    refine (List.Perm.cons _ (nzSV_perm (l.set b 0)).symm).trans ?_
    exact (List.perm_append_singleton _ _).symm
  refine List.Perm.eq_of_pairwise (le := fun x y : Int => x ≤ y) (fun a b _ _ h1 h2 => Int.le_antisymm h1 h2) (nzSV_le_sorted l) ?_ hp
  refine List.pairwise_append.2 ⟨nzSV_le_sorted _, List.pairwise_singleton _ _, fun x hx y hy => ?_⟩
  rw [List.mem_singleton.1 hy]
  have : x ∈ nzSV l := hp.symm.subset (by simp [hx])
  exact hmax x ((nzSV_mem l x).1 this).1
/-! ### the reference -/
def seekMax (l : List Int) (b : Nat) : Prop := ∃ h : b < l.length, ∀ x ∈ l, x ≤ l[b]
theorem sure_l2 (a1 : Int) (l : List Int) (s x11 : Int) (hl : l.length ≤ 8) : ∀ (d i b : Nat), l.length - i = d → i ≤ l.length → b < l.length → (∀ j, j < i → rd l (j : Int) ≤ rd l (b : Int)) →
    ∃ b', seekMax l b' ∧ ∀ r, Ev (fun k => spec_SureColours.l1 k a1 (l.set b' 0) (wrap64 (s + rd l (b' : Int))) (wrap64 (x11 + 1))) r → Ev (fun k => spec_SureColours.l2 k a1 l s x11 b l l.length i) r := by
  intro d
  induction d with
  | zero =>
    intro i b hd hi hb hmx
    obtain rfl : i = l.length := by omega
    refine ⟨b, ⟨hb, fun x hx => ?_⟩, fun r hr => hr.step fun k => ?_⟩
    · obtain ⟨j, hj, rfl⟩ := List.mem_iff_getElem.1 hx
      have := hmx j hj
      rwa [rd_at l j hj, rd_at l b hb] at this
    · simp only [spec_SureColours.l2]
      rw [if_neg (by omega), if_pos (by omega), if_pos (by omega), Int.toNat_natCast]
  | succ d ih =>
    intro i b hd hi hb hmx
    have hlt : i < l.length := by omega
    by_cases hg : rd l (i : Int) > rd l (b : Int)
    · obtain ⟨b', h1, h2⟩ := ih (i + 1) i (by omega) (by omega) hlt (fun j hj => by
        by_cases e : j = i
        · subst e; exact Int.le_refl _
        · have := hmx j (by omega); omega)
      refine ⟨b', h1, fun r hr => (h2 r hr).step fun k => ?_⟩
      simp only [spec_SureColours.l2]
      rw [if_pos (by omega), if_pos (by omega), if_pos (by omega), if_pos (by omega), if_pos (by omega), if_pos hg, wrap_succ hlt (by omega)]
    · obtain ⟨b', h1, h2⟩ := ih (i + 1) b (by omega) (by omega) hb (fun j hj => by
        by_cases e : j = i
        · subst e; omega
        · exact hmx j (by omega))
      refine ⟨b', h1, fun r hr => (h2 r hr).step fun k => ?_⟩
      simp only [spec_SureColours.l2]
      rw [if_pos (by omega), if_pos (by omega), if_pos (by omega), if_pos (by omega), if_pos (by omega), if_neg hg, wrap_succ hlt (by omega)]
theorem sure_l1 (a1 : Int) (ha : a1 ≤ 8) : ∀ (r : Nat) (l : List Int) (s x11 : Int), a1 = x11 + r → 1 ≤ x11 → l.length ≤ 8 → (∀ x ∈ l, 0 ≤ x ∧ x ≤ 20) → r ≤ (nzSV l).length → 0 ≤ s → s + 20 * r ≤ 1000 →
    Ev (fun k => spec_SureColours.l1 k a1 l s x11) (wrap64 (s + ((nzSV l).drop ((nzSV l).length - r)).sum + 1), true) := by
  intro r
  induction r with
  | zero =>
    intro l s x11 h1 h2 h3 h4 h5 h6 h7
    refine Ev.now fun k => ?_
    simp only [spec_SureColours.l1]
    rw [if_neg (by omega)]
    simp
  | succ r ih =>
    intro l s x11 h1 h2 h3 h4 h5 h6 h7
    have hne : 0 < l.length := by have := nzSV_le l; omega
    obtain ⟨b, ⟨hb, hmx⟩, hgo⟩ := sure_l2 a1 l s x11 h3 l.length 0 0 (by omega) (by omega) hne (fun j hj => absurd hj (by omega))
    have hpos : 0 < l[b] := by
      obtain ⟨x, hx⟩ : ∃ x, x ∈ nzSV l := List.exists_mem_of_length_pos (by omega)
      have h8 := (nzSV_mem l x).1 hx
      have := hmx x h8.1
      have := (h4 x h8.1).1
      omega
    have hub : l[b] ≤ 20 := (h4 _ (List.getElem_mem hb)).2
    have hst := nzSV_step l b hb hmx (by omega)
    have hlen : (nzSV l).length = (nzSV (l.set b 0)).length + 1 := by rw [hst]; simp
    have hrd := rd_at l b hb
    have hw1 : wrap64 (s + rd l (b : Int)) = s + l[b] := by rw [hrd]; exact wrap_small (by omega) (by omega)
    have hw2 : wrap64 (x11 + 1) = x11 + 1 := wrap_small (by omega) (by omega)
    have hrec := ih (l.set b 0) (s + l[b]) (x11 + 1) (by omega) (by omega) (by simpa using h3) (fun x hx => by
      rcases List.mem_or_eq_of_mem_set hx with h | rfl
      · exact h4 x h
      · omega) (by omega) (by omega) (by omega)
    have hd : (nzSV l).drop ((nzSV l).length - (r + 1)) = (nzSV (l.set b 0)).drop ((nzSV (l.set b 0)).length - r) ++ [l[b]] := by
      rw [show (nzSV l).length - (r + 1) = (nzSV (l.set b 0)).length - r by omega, hst, List.drop_append_of_le_length (by omega)]
    have hsum : s + ((nzSV l).drop ((nzSV l).length - (r + 1))).sum + 1 = s + l[b] + ((nzSV (l.set b 0)).drop ((nzSV (l.set b 0)).length - r)).sum + 1 := by
      rw [hd, List.sum_append]
      simp
      omega
    rw [hsum]
    refine (hgo _ ?_).step fun k => ?_
    · rw [hw1, hw2]; exact hrec
    · simp only [spec_SureColours.l1]
      rw [if_pos (by omega)]
      rfl
theorem sure_l0 (a1 : Int) (own l : List Int) (hl : l.length ≤ 8) (res : Int × Bool) (hgo : Ev (fun k => if a1 > (((l.filter fun x => decide (0 < x)).length : Nat) : Int) then some (0, false) else spec_SureColours.l1 k a1 own 0 1) res) :
    ∀ (d i c : Nat), l.length - i = d → i ≤ l.length → c ≤ i → c + ((l.drop i).filter fun x => decide (0 < x)).length = (l.filter fun x => decide (0 < x)).length → Ev (fun k => spec_SureColours.l0 k a1 own 0 c l l.length i) res := by
  intro d
  induction d with
  | zero =>
    intro i c hd hi hci hc
    obtain rfl : i = l.length := by omega
    have hc' : c = (l.filter fun x => decide (0 < x)).length := by rw [← hc]; simp
    refine hgo.step fun k => ?_
    simp only [spec_SureColours.l0]
    rw [if_neg (by omega), hc']
  | succ d ih =>
    intro i c hd hi hci hc
    have hlt : i < l.length := by omega
    have hrd := rd_at l i hlt
    rw [List.drop_eq_getElem_cons hlt, List.filter_cons] at hc
    by_cases hg : rd l (i : Int) > 0
    · have hg' : decide (0 < l[i]) = true := by rw [← hrd]; exact decide_eq_true hg
      rw [if_pos hg', List.length_cons] at hc
      refine (ih (i + 1) (c + 1) (by omega) (by omega) (by omega) (by omega)).step fun k => ?_
      simp only [spec_SureColours.l0]
      rw [if_pos (by omega), if_pos (by omega), if_pos (by omega), if_pos hg, wrap_succ hlt (by omega), wrap_succ (n := 100) (by omega) (by omega)]
    · have hg' : ¬ decide (0 < l[i]) = true := by rw [← hrd]; simpa using hg
      rw [if_neg hg'] at hc
      refine (ih (i + 1) c (by omega) (by omega) (by omega) (by omega)).step fun k => ?_
      simp only [spec_SureColours.l0]
      rw [if_pos (by omega), if_pos (by omega), if_pos (by omega), if_neg hg, wrap_succ hlt (by omega)]
theorem nz_count (l : List Int) (h : ∀ x ∈ l, 0 ≤ x ∧ x ≤ 20) : (l.filter fun x => decide (0 < x)).length = (nzSV l).length := by
  rw [(nzSV_perm l).length_eq]
  unfold nzV
  congr 1
  refine List.filter_congr fun x hx => ?_
  have := (h x hx).1
  by_cases e : x = 0
  · subst e; rfl
  · have : 0 < x := by omega
    simp [this, e]
/-- What both answer. -/
def sureOf (l : List Int) (a1 : Int) : Int × Bool := if goodB l = true ∧ 1 ≤ a1 ∧ a1 ≤ ((nzSV l).length : Int) then (wrap64 (((nzSV l).drop ((nzSV l).length - (a1 - 1).toNat)).sum + 1), true) else (0, false)
theorem spec_sure (l : List Int) (a1 : Int) (hl : l.length ≤ 1048576) : Ev (fun k => spec_SureColours.f k l a1) (sureOf l a1) := by
  obtain ⟨K1, h1⟩ := soGood_ev l (by omega)
  have hj : ∀ b, (b = true → sureOf l a1 = (0, false)) → (b = false → goodB l = true ∧ 1 ≤ a1) → Ev (fun k => spec_SureColours.j0 k l a1 b) (sureOf l a1) := by
    intro b hb1 hb2
    cases b with
    | true =>
      rw [hb1 rfl]
      exact Ev.now fun k => by simp only [spec_SureColours.j0, if_true]
    | false =>
      obtain ⟨hg, ha⟩ := hb2 rfl
      obtain ⟨g1, g2, g3, g4⟩ := goodB_iff.1 hg
      have ho : spec_l1Own.f l = some l := by
        unfold spec_l1Own.f
        rw [Option.bind_some, if_pos (by simp; omega), List.nil_append]
      have hcnt := nz_count l g3
      refine (sure_l0 a1 l l g2 (sureOf l a1) ?_ l.length 0 0 (by omega) (by omega) (by omega) (by simp)).step fun k => ?_
      · by_cases hle : a1 ≤ ((nzSV l).length : Int)
        · have hn := nzSV_le l
          have h := sure_l1 a1 (by omega) (a1 - 1).toNat l 0 1 (by omega) (by omega) g2 g3 (by omega) (by omega) (by omega)
          unfold sureOf
          rw [if_pos ⟨hg, ha, hle⟩]
          rw [Int.zero_add] at h
          obtain ⟨K, hK⟩ := h
          refine ⟨K, fun k hk => ?_⟩
          rw [hcnt]
          show (if a1 > ((nzSV l).length : Int) then _ else _) = _
          rw [if_neg (by omega)]
          exact hK k hk
        · refine ⟨0, fun k _ => ?_⟩
          rw [hcnt]
          show (if a1 > ((nzSV l).length : Int) then _ else _) = _
          rw [if_pos (by omega)]
          unfold sureOf
          rw [if_neg (fun h => hle h.2.2)]
      · simp only [spec_SureColours.j0, Bool.false_eq_true, if_false, ho, Option.bind_some]
        rfl
  have hgo : Ev (fun k => spec_SureColours.j0 k l a1 (if goodB l = true then decide (a1 < 1) else true)) (sureOf l a1) := by
    refine hj _ (fun hb => ?_) (fun hb => ?_)
    · unfold sureOf
      refine if_neg fun h => ?_
      rw [if_pos h.1] at hb
      have := of_decide_eq_true hb
      omega
    · by_cases hg : goodB l = true
      · rw [if_pos hg] at hb
        have := of_decide_eq_false hb
        exact ⟨hg, by omega⟩
      · rw [if_neg hg] at hb
        exact absurd hb (by simp)
  obtain ⟨K2, h2⟩ := hgo
  refine ⟨K1 + K2, fun k hk => ?_⟩
  have h3 := h2 k (by omega)
  show spec_SureColours.f k l a1 = _
  simp only [spec_SureColours.f, h1 k (by omega), Option.bind_some]
  by_cases hg : goodB l = true
  · rw [if_pos hg] at h3 ⊢; exact h3
  · rw [if_neg hg] at h3 ⊢; exact h3
/-! ### the program -/
theorem impl_sure (l : List Int) (a1 : Int) (hl : l.length ≤ 1048576) : Ev (fun k => impl_SureColours.f k l a1) (sureOf l a1) := by
  obtain ⟨K1, h1⟩ := AreSocks_ev l (by omega)
  have hn := nzSV_le l
  obtain ⟨K2, h2⟩ := total_ev ((nzSV l).drop (((nzSV l).length : Int) + 1 - a1).toNat) (by rw [List.length_drop]; omega)
  refine ⟨K1 + K2, fun k hk => ?_⟩
  show impl_SureColours.f k l a1 = _
  unfold impl_SureColours.f sureOf
  rw [h1 k (by omega), Option.bind_some]
  by_cases hg : goodB l = true
  · obtain ⟨g1, g2, g3, g4⟩ := goodB_iff.1 hg
    rw [if_pos hg, if_pos ⟨by omega, g2⟩, within_eq, Option.bind_some]
    by_cases ha : 1 ≤ a1 ∧ a1 ≤ ((nzSV l).length : Int)
    · have e : (decide (1 ≤ a1) && decide (a1 ≤ ((nzSV l).length : Int))) = true := by simp; omega
      rw [if_pos e, if_pos ⟨hg, ha.1, ha.2⟩, h2 k (by omega), Option.bind_some]
      have e2 : (((nzSV l).length : Int) + 1 - a1).toNat = (nzSV l).length - (a1 - 1).toNat := by omega
      rw [e2, wsum_small _ 0 (by omega) (fun x hx => ?_) (by rw [List.length_drop]; omega), Int.zero_add]
      have := g3 x ((nzSV_mem l x).1 (List.mem_of_mem_drop hx)).1
      omega
    · have e : ¬ (decide (1 ≤ a1) && decide (a1 ≤ ((nzSV l).length : Int))) = true := by simp; omega
      rw [if_neg e, if_neg (fun h => ha ⟨h.2.1, h.2.2⟩)]
  · rw [if_neg hg, if_neg (fun h => hg h.1)]
theorem SureColours_ev (l : List Int) (a1 : Int) (hl : l.length ≤ 1048576) : ∃ r K, ∀ k, K ≤ k → spec_SureColours.f k l a1 = some r ∧ impl_SureColours.f k l a1 = some r := by
  obtain ⟨K1, h1⟩ := spec_sure l a1 hl
  obtain ⟨K2, h2⟩ := impl_sure l a1 hl
  exact ⟨sureOf l a1, K1 + K2, fun k hk => ⟨h1 k (by omega), h2 k (by omega)⟩⟩

end Go.Proofs.Ytjldifjfgeifcaa.Pure
