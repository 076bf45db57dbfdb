/- Plain lemmas over the printed functions of this seat. -/
import Derived.Test.YtcnfhfjhpicpkaaZ2
import Derived.Test.YtcnfhfjhpicpkaaPx4
set_option linter.unusedVariables false
set_option linter.unusedSimpArgs false
namespace Go.Proofs.Ytcnfhfjhpicpkaa.Pure
open Go.RowKit Go.Proofs.Ytcnfhfjhpicpkaa.P Go.Proofs.YtcnfhfjhpicpkaaW.PrintWords Go.Proofs.YtcnfhfjhpicpkaaW.PrintLast Go.Proofs.YtcnfhfjhpicpkaaW.PrintMore

theorem madeTurnHands_l (l r : List Int) (hl : l.length ≤ 1048576) (he : r.length = l.length) (res : List Int × List Int × Bool) (Ka : Nat)
    (ha : ∀ k, Ka ≤ k → impl_AreGloves.f k (List.zipWith (fun _ y => y) l r) (List.zipWith (fun x _ => x) l r) = some (gloveB (List.zipWith (fun _ y => y) l r) (List.zipWith (fun x _ => x) l r))) : ∀ (n i k : Nat), l.length - i = n → i ≤ l.length → n + Ka < k →
    impl_Gloves_made_of_impl_TurnHands_1.l0 k l l.length i l r ((List.zipWith (fun _ y => y) l r).take i) ((List.zipWith (fun x _ => x) l r).take i) = some (if gloveB (List.zipWith (fun _ y => y) l r) (List.zipWith (fun x _ => x) l r) = true then (List.zipWith (fun _ y => y) l r, List.zipWith (fun x _ => x) l r, true) else ([], [], false)) := by
  intro n
  induction n with
  | zero =>
    intro i k hd hi hk
    obtain ⟨m, rfl⟩ : ∃ m, k = m + 1 := ⟨k - 1, by omega⟩
    obtain rfl : i = l.length := by omega
    simp only [impl_Gloves_made_of_impl_TurnHands_1.l0]
    rw [if_neg (by omega), List.take_of_length_le (by rw [zw_len _ l r he]; omega), List.take_of_length_le (by rw [zw_len _ l r he]; omega), ha m (by omega), Option.bind_some]
    cases gloveB (List.zipWith (fun _ y => y) l r) (List.zipWith (fun x _ => x) l r) <;> simp
  | succ n ih =>
    intro i k hd hi hk
    obtain ⟨m, rfl⟩ : ∃ m, k = m + 1 := ⟨k - 1, by omega⟩
    have hlt : i < l.length := by omega
    have hlt2 : i < r.length := by omega
    have d0 : (0 : Int) ≤ (i : Int) := by omega
    have d1 : (i : Int) < (l.length : Int) := by omega
    have d2 : (i : Int) < (r.length : Int) := by omega
    have q1 : ((List.zipWith (fun _ y => y) l r).take i).length + ([(fun _ y => y) l[i] r[i]] : List Int).length < 17592186044416 := by rw [List.length_take]; simp; omega
    have q2 : ((List.zipWith (fun x _ => x) l r).take i).length + ([(fun x _ => x) l[i] r[i]] : List Int).length < 17592186044416 := by rw [List.length_take]; simp; omega
    have e : impl_TurnHands_1.f l[i] r[i] = some ((fun _ y => y) l[i] r[i], (fun x _ => x) l[i] r[i]) := rfl
    simp only [impl_Gloves_made_of_impl_TurnHands_1.l0]
    rw [if_pos d1, if_pos d0, if_pos d1, if_pos d2, rd_at l i hlt, rd_at r i hlt2, e, Option.bind_some, Option.bind_some, if_pos q1, Option.bind_some, if_pos q2, wrap_succ hlt (by omega), zw_take _ l r he i hlt, zw_take _ l r he i hlt]
    exact ih (i + 1) m (by omega) (by omega) (by omega)
theorem madeTurnHands_ev (l r : List Int) (hl : l.length ≤ 1048576) (hr : r.length ≤ 1048576) : ∃ K, ∀ k, K ≤ k → impl_TurnHands.f k l r = some (if gloveB l r = true then (if gloveB (List.zipWith (fun _ y => y) l r) (List.zipWith (fun x _ => x) l r) = true then (List.zipWith (fun _ y => y) l r, List.zipWith (fun x _ => x) l r, true) else ([], [], false)) else ([], [], false)) := by
  obtain ⟨K1, h1⟩ := AreGloves_ev l r (by omega) (by omega)
  obtain ⟨K2, h2⟩ := AreGloves_ev (List.zipWith (fun _ y => y) l r) (List.zipWith (fun x _ => x) l r) (by rw [List.length_zipWith]; omega) (by rw [List.length_zipWith]; omega)
  refine ⟨K1 + K2 + l.length + 1, fun k hk => ?_⟩
  simp (disch := omega) only [impl_TurnHands.f, impl_Gloves_made_of_impl_TurnHands_1.f, h1, Option.bind_some]
  cases hg : gloveB l r with
  | false => simp
  | true =>
    have h := madeTurnHands_l l r hl (gloveB_iff.1 hg).2.2.1 ([], [], false) K2 h2 l.length 0 k (by omega) (by omega) (by omega)
    rw [List.take_zero, List.take_zero] at h
    have h' : impl_Gloves_made_of_impl_TurnHands_1.l0 k l (l.length : Int) 0 l r [] [] = _ := h
    rw [if_pos rfl, if_pos rfl, h', Option.bind_some]

theorem own_eq (l : List Int) (h : l.length ≤ 1048576) : spec_l1Own.f l = some l := by
  unfold spec_l1Own.f
  rw [Option.bind_some, if_pos (by simp; omega)]; rfl
theorem zip_snd : ∀ (l r : List Int), r.length = l.length → List.zipWith (fun _ y => y) l r = r := by
  intro l
  induction l with
  | nil => intro r h; have : r = [] := List.length_eq_zero_iff.1 (by simpa using h); subst this; rfl
  | cons a l ih => intro r h; cases r with
    | nil => simp at h
    | cons b r => simp only [List.zipWith_cons_cons, ih r (by simpa using h)]
theorem zip_fst : ∀ (l r : List Int), r.length = l.length → List.zipWith (fun x _ => x) l r = l := by
  intro l
  induction l with
  | nil => intro r h; rfl
  | cons a l ih => intro r h; cases r with
    | nil => simp at h
    | cons b r => simp only [List.zipWith_cons_cons, ih r (by simpa using h)]
theorem turn_good (l r : List Int) (h : gloveB l r = true) : gloveB r l = true := by
  obtain ⟨g1, g2, g3, g4, g5, g6⟩ := gloveB_iff.1 h
  exact gloveB_iff.2 ⟨by omega, by omega, by omega, g5, g4, by omega⟩
theorem TurnHands_ev (l r : List Int) (hl : l.length ≤ 1048576) (hr : r.length ≤ 1048576) : ∃ (v : List Int × List Int × Bool) (K : Nat), (v.1.length ≤ 1048576 ∧ v.2.1.length ≤ 1048576) ∧ ∀ k, K ≤ k → spec_TurnHands.f k l r = some v ∧ impl_TurnHands.f k l r = some v := by
  obtain ⟨K1, h1⟩ := gvGood_ev l r (by omega) (by omega)
  obtain ⟨K2, h2⟩ := madeTurnHands_ev l r hl hr
  refine ⟨if gloveB l r = true then (r, l, true) else ([], [], false), K1 + K2, ?_, fun k hk => ⟨?_, ?_⟩⟩
  · by_cases hg : gloveB l r = true
    · rw [if_pos hg]; exact ⟨hr, hl⟩
    · rw [if_neg hg]; simp
  · simp (disch := omega) only [spec_TurnHands.f, h1, own_eq l hl, own_eq r hr, Option.bind_some]
    cases gloveB l r <;> simp
  · rw [h2 k (by omega)]
    by_cases hg : gloveB l r = true
    · have he := (gloveB_iff.1 hg).2.2.1
      rw [if_pos hg, if_pos hg, zip_snd l r he, zip_fst l r he, if_pos (turn_good l r hg)]
    · rw [if_neg hg, if_neg hg]

end Go.Proofs.Ytcnfhfjhpicpkaa.Pure
