/- Plain lemmas over the printed functions of this seat. -/
import Derived.Test.YtcnfhfjhpicpkaaR1
set_option linter.unusedVariables false
set_option linter.unusedSimpArgs false
namespace Go.Proofs.Ytcnfhfjhpicpkaa.Pure
open Go.RowKit Go.Proofs.Ytcnfhfjhpicpkaa.P Go.Proofs.YtcnfhfjhpicpkaaW.PrintWords Go.Proofs.YtcnfhfjhpicpkaaW.PrintLast Go.Proofs.YtcnfhfjhpicpkaaW.PrintMore

/-! ### a result that is marked and looked at again -/
/-- a, a + 1, ..: n numbers. -/
def iota (a : Int) : Nat → List Int
  | 0 => []
  | n + 1 => a :: iota (a + 1) n
theorem iota_length (n : Nat) : ∀ a, (iota a n).length = n := by
  induction n with
  | zero => intro a; rfl
  | succ n ih => intro a; simp [iota, ih]
theorem iota_at (n : Nat) : ∀ (a : Int) (i : Nat), i < n → rd (iota a n) (i : Int) = a + i := by
  induction n with
  | zero => intro a i h; omega
  | succ n ih =>
    intro a i h
    cases i with
    | zero => simp [rd, iota]
    | succ i =>
      have := ih (a + 1) i (by omega)
      simp only [rd, Int.toNat_natCast, iota, List.getD_cons_succ] at this ⊢
      rw [this]; omega
theorem iota_snoc (n : Nat) : ∀ (a : Int), iota a (n + 1) = iota a n ++ [a + n] := by
  induction n with
  | zero => intro a; simp [iota]
  | succ n ih =>
    intro a
    have h := ih (a + 1)
    rw [iota, h, iota, List.cons_append]
    congr 2
    simp; omega
theorem markIntS_l (l : List Int) (a : Int) (hl : l.length ≤ 1048576) (h0 : 0 ≤ a) (h1 : a ≤ 1099511627776) : ∀ (d k i : Nat), l.length - i = d → i ≤ l.length → d < k →
    laws_markIntS.l0 k (iota a i ++ l.drop i) (a + i) i = some (a + l.length, iota a l.length) := by
  intro d
  induction d with
  | zero =>
    intro k i hd hi hk
    obtain ⟨m, rfl⟩ : ∃ m, k = m + 1 := ⟨k - 1, by omega⟩
    obtain rfl : i = l.length := by omega
    simp only [laws_markIntS.l0]
    rw [List.drop_length, List.append_nil, if_neg (by rw [iota_length]; omega)]
  | succ d ih =>
    intro k i hd hi hk
    obtain ⟨m, rfl⟩ : ∃ m, k = m + 1 := ⟨k - 1, by omega⟩
    have hlt : i < l.length := by omega
    have e : (iota a i ++ l.drop i).set ((i : Int)).toNat (a + i) = iota a (i + 1) ++ l.drop (i + 1) := by
      rw [List.drop_eq_getElem_cons hlt, Int.toNat_natCast, List.set_append_right _ _ (by rw [iota_length]; omega), iota_length, Nat.sub_self, List.set_cons_zero, iota_snoc, List.append_assoc]
      rfl
    simp only [laws_markIntS.l0]
    rw [if_pos (by simp [iota_length]; omega), if_pos (by omega), e, wrap_succ hlt (by omega), wrap_small (by omega) (by omega)]
    have h := ih m (i + 1) (by omega) (by omega) (by omega)
    rw [show a + (i : Int) + 1 = a + ((i + 1 : Nat) : Int) by omega]
    exact h
theorem markIntS_ev (l : List Int) (a : Int) (hl : l.length ≤ 1048576) (h0 : 0 ≤ a) (h1 : a ≤ 1099511627776) : ∃ K, ∀ k, K ≤ k → laws_markIntS.f k l a = some (a + l.length, iota a l.length) := by
  refine ⟨l.length + 1, fun k hk => ?_⟩
  unfold laws_markIntS.f
  have h := markIntS_l l a hl h0 h1 l.length k 0 (by omega) (by omega) (by omega)
  simpa [iota] using h
theorem heldIntS_l (n : Nat) (a : Int) (hl : n ≤ 1048576) (h0 : 0 ≤ a) (h1 : a ≤ 1099511627776) : ∀ (d k i : Nat), n - i = d → i ≤ n → d < k →
    laws_heldIntS.l0 k (iota a n) (a + i) i = some (a + n) := by
  intro d
  induction d with
  | zero =>
    intro k i hd hi hk
    obtain ⟨m, rfl⟩ : ∃ m, k = m + 1 := ⟨k - 1, by omega⟩
    obtain rfl : i = n := by omega
    simp only [laws_heldIntS.l0]
    rw [if_neg (by rw [iota_length]; omega)]
  | succ d ih =>
    intro k i hd hi hk
    obtain ⟨m, rfl⟩ : ∃ m, k = m + 1 := ⟨k - 1, by omega⟩
    have hlt : i < n := by omega
    simp only [laws_heldIntS.l0]
    rw [if_pos (by rw [iota_length]; omega), if_pos (by omega), if_pos (iota_at n a i hlt), wrap_succ hlt (by omega), wrap_small (by omega) (by omega)]
    have h := ih m (i + 1) (by omega) (by omega) (by omega)
    rw [show a + (i : Int) + 1 = a + ((i + 1 : Nat) : Int) by omega]
    exact h
theorem heldIntS_ev (n : Nat) (a : Int) (hl : n ≤ 1048576) (h0 : 0 ≤ a) (h1 : a ≤ 1099511627776) : ∃ K, ∀ k, K ≤ k → laws_heldIntS.f k (iota a n) a = some (a + n) := by
  refine ⟨n + 1, fun k hk => ?_⟩
  unfold laws_heldIntS.f
  have h := heldIntS_l n a hl h0 h1 n k 0 (by omega) (by omega) (by omega)
  simpa using h

theorem markGloves_ev (l r : List Int) (hl : l.length ≤ 1048576) (hr : r.length ≤ 1048576) : ∃ K, ∀ k, K ≤ k → laws_markGloves.f k l r 1 = some (1 + (l.length : Int) + (r.length : Int), iota 1 l.length, iota (1 + (l.length : Int)) r.length) := by
  obtain ⟨K1, h1⟩ := markIntS_ev l 1 hl (by omega) (by omega)
  obtain ⟨K2, h2⟩ := markIntS_ev r (1 + (l.length : Int)) hr (by omega) (by omega)
  refine ⟨K1 + K2, fun k hk => ?_⟩
  simp (disch := omega) only [laws_markGloves.f, h1, h2, Option.bind_some]

theorem heldGloves_ev (n m : Nat) (hl : n ≤ 1048576) (hr : m ≤ 1048576) : ∃ K, ∀ k, K ≤ k → laws_heldGloves.f k (iota 1 n) (iota (1 + (n : Int)) m) 1 = some (1 + (n : Int) + (m : Int)) := by
  obtain ⟨K1, h1⟩ := heldIntS_ev n 1 hl (by omega) (by omega)
  obtain ⟨K2, h2⟩ := heldIntS_ev m (1 + (n : Int)) hr (by omega) (by omega)
  have n1 : ¬ (1 + (n : Int) < 0) := by omega
  have n2 : ¬ (1 + (n : Int) + (m : Int) < 0) := by omega
  refine ⟨K1 + K2, fun k hk => ?_⟩
  simp (disch := omega) only [laws_heldGloves.f, h1, h2, Option.bind_some, if_neg n1, if_neg n2]

end Go.Proofs.Ytcnfhfjhpicpkaa.Pure
