/- Plain lemmas over the printed functions of this seat. -/
import Derived.Test.YtcnfhfjhpicpkaaZ2
import Derived.Test.YtcnfhfjhpicpkaaPx8
set_option linter.unusedVariables false
set_option linter.unusedSimpArgs false
namespace Go.Proofs.Ytcnfhfjhpicpkaa.Pure
open Go.RowKit Go.Proofs.Ytcnfhfjhpicpkaa.P Go.Proofs.YtcnfhfjhpicpkaaW.PrintWords Go.Proofs.YtcnfhfjhpicpkaaW.PrintLast Go.Proofs.YtcnfhfjhpicpkaaW.PrintMore

theorem madeLooseGloves_l (l r : List Int) (hl : l.length ≤ 1048576) (he : r.length = l.length) (res : List Int × List Int × Bool) (Ka : Nat)
    (ha : ∀ k, Ka ≤ k → impl_AreGloves.f k (List.zipWith (fun x y => wrap64 (x - mn x y)) l r) (List.zipWith (fun x y => wrap64 (y - mn x y)) l r) = some (gloveB (List.zipWith (fun x y => wrap64 (x - mn x y)) l r) (List.zipWith (fun x y => wrap64 (y - mn x y)) l r))) : ∀ (n i k : Nat), l.length - i = n → i ≤ l.length → n + Ka < k →
    impl_Gloves_made_of_impl_LooseGloves_1.l0 k l l.length i l r ((List.zipWith (fun x y => wrap64 (x - mn x y)) l r).take i) ((List.zipWith (fun x y => wrap64 (y - mn x y)) l r).take i) = some (if gloveB (List.zipWith (fun x y => wrap64 (x - mn x y)) l r) (List.zipWith (fun x y => wrap64 (y - mn x y)) l r) = true then (List.zipWith (fun x y => wrap64 (x - mn x y)) l r, List.zipWith (fun x y => wrap64 (y - mn x y)) l r, true) else ([], [], false)) := by
  intro n
  induction n with
  | zero =>
    intro i k hd hi hk
    obtain ⟨m, rfl⟩ : ∃ m, k = m + 1 := ⟨k - 1, by omega⟩
    obtain rfl : i = l.length := by omega
    simp only [impl_Gloves_made_of_impl_LooseGloves_1.l0]
    rw [if_neg (by omega), List.take_of_length_le (by rw [zw_len _ l r he]; omega), List.take_of_length_le (by rw [zw_len _ l r he]; omega), ha m (by omega), Option.bind_some]
    cases gloveB (List.zipWith (fun x y => wrap64 (x - mn x y)) l r) (List.zipWith (fun x y => wrap64 (y - mn x y)) l r) <;> simp
  | succ n ih =>
    intro i k hd hi hk
    obtain ⟨m, rfl⟩ : ∃ m, k = m + 1 := ⟨k - 1, by omega⟩
    have hlt : i < l.length := by omega
    have hlt2 : i < r.length := by omega
    have d0 : (0 : Int) ≤ (i : Int) := by omega
    have d1 : (i : Int) < (l.length : Int) := by omega
    have d2 : (i : Int) < (r.length : Int) := by omega
    have q1 : ((List.zipWith (fun x y => wrap64 (x - mn x y)) l r).take i).length + ([(fun x y => wrap64 (x - mn x y)) l[i] r[i]] : List Int).length < 17592186044416 := by rw [List.length_take]; simp; omega
    have q2 : ((List.zipWith (fun x y => wrap64 (y - mn x y)) l r).take i).length + ([(fun x y => wrap64 (y - mn x y)) l[i] r[i]] : List Int).length < 17592186044416 := by rw [List.length_take]; simp; omega
    have e : impl_LooseGloves_1.f l[i] r[i] = some ((fun x y => wrap64 (x - mn x y)) l[i] r[i], (fun x y => wrap64 (y - mn x y)) l[i] r[i]) := rfl
    simp only [impl_Gloves_made_of_impl_LooseGloves_1.l0]
    rw [if_pos d1, if_pos d0, if_pos d1, if_pos d2, rd_at l i hlt, rd_at r i hlt2, e, Option.bind_some, Option.bind_some, if_pos q1, Option.bind_some, if_pos q2, wrap_succ hlt (by omega), zw_take _ l r he i hlt, zw_take _ l r he i hlt]
    exact ih (i + 1) m (by omega) (by omega) (by omega)
theorem madeLooseGloves_ev (l r : List Int) (hl : l.length ≤ 1048576) (hr : r.length ≤ 1048576) : ∃ K, ∀ k, K ≤ k → impl_LooseGloves.f k l r = some (if gloveB l r = true then (if gloveB (List.zipWith (fun x y => wrap64 (x - mn x y)) l r) (List.zipWith (fun x y => wrap64 (y - mn x y)) l r) = true then (List.zipWith (fun x y => wrap64 (x - mn x y)) l r, List.zipWith (fun x y => wrap64 (y - mn x y)) l r, true) else ([], [], false)) else ([], [], false)) := by
  obtain ⟨K1, h1⟩ := AreGloves_ev l r (by omega) (by omega)
  obtain ⟨K2, h2⟩ := AreGloves_ev (List.zipWith (fun x y => wrap64 (x - mn x y)) l r) (List.zipWith (fun x y => wrap64 (y - mn x y)) l r) (by rw [List.length_zipWith]; omega) (by rw [List.length_zipWith]; omega)
  refine ⟨K1 + K2 + l.length + 1, fun k hk => ?_⟩
  simp (disch := omega) only [impl_LooseGloves.f, impl_Gloves_made_of_impl_LooseGloves_1.f, h1, Option.bind_some]
  cases hg : gloveB l r with
  | false => simp
  | true =>
    have h := madeLooseGloves_l l r hl (gloveB_iff.1 hg).2.2.1 ([], [], false) K2 h2 l.length 0 k (by omega) (by omega) (by omega)
    rw [List.take_zero, List.take_zero] at h
    have h' : impl_Gloves_made_of_impl_LooseGloves_1.l0 k l (l.length : Int) 0 l r [] [] = _ := h
    rw [if_pos rfl, if_pos rfl, h', Option.bind_some]

theorem l1Least_eq (a b : Int) : spec_l1Least.f a b = some (mn a b) := by unfold spec_l1Least.f mn; split <;> split <;> first | rfl | (congr 1; omega)
theorem specLooseGloves_l (l r : List Int) (hl : l.length ≤ 1048576) (he : r.length = l.length) (Ka : Nat)
    (ha : ∀ k, Ka ≤ k → spec_gvIf.f k (List.zipWith (fun x y => wrap64 (x - mn x y)) l r) (List.zipWith (fun x y => wrap64 (y - mn x y)) l r) = some (if gloveB (List.zipWith (fun x y => wrap64 (x - mn x y)) l r) (List.zipWith (fun x y => wrap64 (y - mn x y)) l r) = true then (List.zipWith (fun x y => wrap64 (x - mn x y)) l r, List.zipWith (fun x y => wrap64 (y - mn x y)) l r, true) else ([], [], false))) : ∀ (n i k : Nat), l.length - i = n → i ≤ l.length → n + Ka < k →
    spec_LooseGloves.l0 k l l.length i l r ((List.zipWith (fun x y => wrap64 (x - mn x y)) l r).take i) ((List.zipWith (fun x y => wrap64 (y - mn x y)) l r).take i) = some (if gloveB (List.zipWith (fun x y => wrap64 (x - mn x y)) l r) (List.zipWith (fun x y => wrap64 (y - mn x y)) l r) = true then (List.zipWith (fun x y => wrap64 (x - mn x y)) l r, List.zipWith (fun x y => wrap64 (y - mn x y)) l r, true) else ([], [], false)) := by
  intro n
  induction n with
  | zero =>
    intro i k hd hi hk
    obtain ⟨m, rfl⟩ : ∃ m, k = m + 1 := ⟨k - 1, by omega⟩
    obtain rfl : i = l.length := by omega
    simp only [spec_LooseGloves.l0]
    rw [if_neg (by omega), List.take_of_length_le (by rw [zw_len _ l r he]; omega), List.take_of_length_le (by rw [zw_len _ l r he]; omega), ha m (by omega), Option.bind_some]
  | succ n ih =>
    intro i k hd hi hk
    obtain ⟨m, rfl⟩ : ∃ m, k = m + 1 := ⟨k - 1, by omega⟩
    have hlt : i < l.length := by omega
    have hlt2 : i < r.length := by omega
    have d0 : (0 : Int) ≤ (i : Int) := by omega
    have d1 : (i : Int) < (l.length : Int) := by omega
    have d2 : (i : Int) < (r.length : Int) := by omega
    have q1 : ((List.zipWith (fun x y => wrap64 (x - mn x y)) l r).take i).length < 17592186044416 := by rw [List.length_take]; omega
    have q2 : ((List.zipWith (fun x y => wrap64 (y - mn x y)) l r).take i).length < 17592186044416 := by rw [List.length_take]; omega
    simp only [spec_LooseGloves.l0]
    rw [if_pos d1, if_pos d0, if_pos d1, if_pos d2, rd_at l i hlt, rd_at r i hlt2]
    simp only [l1Least_eq, Option.bind_some, if_pos q1, if_pos q2]
    rw [wrap_succ hlt (by omega)]
    have h := ih (i + 1) m (by omega) (by omega) (by omega)
    rw [← zw_take _ l r he i hlt, ← zw_take _ l r he i hlt] at h
    exact h
theorem LooseGloves_ev (l r : List Int) (hl : l.length ≤ 1048576) (hr : r.length ≤ 1048576) : ∃ (v : List Int × List Int × Bool) (K : Nat), (v.1.length ≤ 1048576 ∧ v.2.1.length ≤ 1048576) ∧ ∀ k, K ≤ k → spec_LooseGloves.f k l r = some v ∧ impl_LooseGloves.f k l r = some v := by
  obtain ⟨K1, h1⟩ := gvGood_ev l r (by omega) (by omega)
  obtain ⟨K2, h2⟩ := madeLooseGloves_ev l r hl hr
  obtain ⟨K3, h3⟩ := gvIf_ev (List.zipWith (fun x y => wrap64 (x - mn x y)) l r) (List.zipWith (fun x y => wrap64 (y - mn x y)) l r) (by rw [List.length_zipWith]; omega) (by rw [List.length_zipWith]; omega)
  refine ⟨if gloveB l r = true then (if gloveB (List.zipWith (fun x y => wrap64 (x - mn x y)) l r) (List.zipWith (fun x y => wrap64 (y - mn x y)) l r) = true then (List.zipWith (fun x y => wrap64 (x - mn x y)) l r, List.zipWith (fun x y => wrap64 (y - mn x y)) l r, true) else ([], [], false)) else ([], [], false), K1 + K2 + K3 + l.length + 1, ?_, fun k hk => ⟨?_, h2 k (by omega)⟩⟩
  · by_cases hg : gloveB l r = true
    · rw [if_pos hg]
      by_cases hg2 : gloveB (List.zipWith (fun x y => wrap64 (x - mn x y)) l r) (List.zipWith (fun x y => wrap64 (y - mn x y)) l r) = true
      · rw [if_pos hg2]; simp only [List.length_zipWith]; omega
      · rw [if_neg hg2]; simp
    · rw [if_neg hg]; simp
  · simp (disch := omega) only [spec_LooseGloves.f, h1, Option.bind_some]
    cases hg : gloveB l r with
    | false => simp
    | true =>
      have h := specLooseGloves_l l r hl (gloveB_iff.1 hg).2.2.1 K3 h3 l.length 0 k (by omega) (by omega) (by omega)
      rw [List.take_zero, List.take_zero] at h
      have h' : spec_LooseGloves.l0 k l (l.length : Int) 0 l r [] [] = _ := h
      rw [if_pos rfl, if_pos rfl, h']

end Go.Proofs.Ytcnfhfjhpicpkaa.Pure
