/- Plain lemmas over the printed functions of this seat. -/
import Derived.Test.YtakdcikmflpioaaDoorY1
set_option linter.unusedVariables false
set_option linter.unusedSimpArgs false
namespace Go.Proofs.YtakdcikmflpioaaDoor.Pure
open Go.RowKit Go.Proofs.YtakdcikmflpioaaDoor.P Go.Proofs.YtakdcikmflpioaaDoorW.PrintWords Go.Proofs.YtakdcikmflpioaaDoorW.PrintLast Go.Proofs.YtakdcikmflpioaaDoorW.PrintMore

/-! ### the text of gloves -/
theorem itoa_all : ∀ n : Fin 21, spec_l1Num.f 2 ((n.val : Nat) : Int) = some (itoaT n.val) := by decide +kernel
theorem l1Num_ev (x : Int) (h : 0 ≤ x ∧ x ≤ 20) : ∀ k, 2 ≤ k → spec_l1Num.f k x = some (itoaT x.toNat) := by
  obtain ⟨n, rfl⟩ := Int.eq_ofNat_of_zero_le h.1
  have h2 := itoa_all ⟨n, by omega⟩
  rw [Int.toNat_natCast]
  intro k hk
  induction k with
  | zero => omega
  | succ k ih =>
    by_cases hk2 : k + 1 = 2
    · rw [hk2]; exact h2
    · exact spec_l1Num.mono_l k _ _ (ih (by omega))
theorem Itoa_eq (x : Int) (h : 0 ≤ x ∧ x ≤ 20) : strconv_Itoa.f x = some (itoaT x.toNat) := if_pos h
theorem itoaT_size (n : Nat) : (itoaT n).size ≤ 2 := by
  unfold itoaT
  split
  · show (1 : Nat) ≤ 2; omega
  · show (2 : Nat) ≤ 2; omega
theorem text_l (l r : List Int) (hl : l.length ≤ 8) (he : r.length = l.length) (h1 : ∀ x ∈ l, 0 ≤ x ∧ x ≤ 20) (h2 : ∀ x ∈ r, 0 ≤ x ∧ x ≤ 20) :
    ∀ (n i : Nat) (x : ByteArray), l.length - i = n → i ≤ l.length → x.size ≤ 6 * i → ∃ s, Ev (fun k => spec_gvText.l0 k x l l.length i l r) s ∧ Ev (fun k => impl_GlovesText.l0 k x l l.length i l r) (s, true) := by
  intro n
  induction n with
  | zero =>
    intro i x hn hi hx
    obtain rfl : i = l.length := by omega
    have q1 : ¬ ((l.length : Int) < (l.length : Int)) := by omega
    refine ⟨x, Ev.now (fun k => ?_), Ev.now (fun k => ?_)⟩
    · simp only [spec_gvText.l0]
      rw [if_neg q1]
    · simp only [impl_GlovesText.l0]
      rw [if_neg q1]
  | succ n ih =>
    intro i x hn hi hx
    have hlt : i < l.length := by omega
    have hlt2 : i < r.length := by omega
    have q0 : (0 : Int) ≤ (i : Int) := by omega
    have q1 : (i : Int) < (l.length : Int) := by omega
    have q2 : (i : Int) < (r.length : Int) := by omega
    have a1 := h1 l[i] (List.getElem_mem hlt)
    have a2 := h2 r[i] (List.getElem_mem hlt2)
    have s1 := itoaT_size l[i].toNat
    have s2 := itoaT_size r[i].toNat
    have z1 : (⟨#[108]⟩ : ByteArray).size = 1 := rfl
    have z2 : (⟨#[114]⟩ : ByteArray).size = 1 := rfl
    have p1 : (itoaT l[i].toNat).size + 1 ≤ 9223372036854775807 := by omega
    have p2 : (itoaT l[i].toNat ++ (⟨#[108]⟩ : ByteArray)).size + (itoaT r[i].toNat).size ≤ 9223372036854775807 := by rw [ByteArray.size_append, z1]; omega
    have p3 : ((itoaT l[i].toNat ++ (⟨#[108]⟩ : ByteArray)) ++ itoaT r[i].toNat).size + 1 ≤ 9223372036854775807 := by rw [ByteArray.size_append, ByteArray.size_append, z1]; omega
    have p5 : (((itoaT l[i].toNat ++ (⟨#[108]⟩ : ByteArray)) ++ itoaT r[i].toNat) ++ (⟨#[114]⟩ : ByteArray)).size ≤ 6 := by rw [ByteArray.size_append, ByteArray.size_append, ByteArray.size_append, z1, z2]; omega
    have p4 : x.size + (((itoaT l[i].toNat ++ (⟨#[108]⟩ : ByteArray)) ++ itoaT r[i].toNat) ++ (⟨#[114]⟩ : ByteArray)).size ≤ 9223372036854775807 := by omega
    obtain ⟨s, g1, g2⟩ := ih (i + 1) (x ++ (((itoaT l[i].toNat ++ (⟨#[108]⟩ : ByteArray)) ++ itoaT r[i].toNat) ++ (⟨#[114]⟩ : ByteArray))) (by omega) (by omega) (by rw [ByteArray.size_append]; omega)
    have hi8 : i < l.length ∧ l.length ≤ 9223372036854775807 := by omega
    refine ⟨s, Ev.stepFrom g1 2 (fun k hk => ?_), Ev.step g2 (fun k => ?_)⟩
    · simp only [spec_gvText.l0]
      rw [if_pos q1, if_pos q0, if_pos q1, rd_at l i hlt, l1Num_ev _ a1 k hk, Option.bind_some, if_pos p1, if_pos q2, rd_at r i hlt2, l1Num_ev _ a2 k hk, Option.bind_some, if_pos p2, if_pos p3, if_pos p4, wrap_succ hi8.1 hi8.2]
    · simp only [impl_GlovesText.l0]
      rw [if_pos q1, if_pos q0, if_pos q1, rd_at l i hlt, Itoa_eq _ a1, Option.bind_some, if_pos p1, if_pos q2, rd_at r i hlt2, Itoa_eq _ a2, Option.bind_some, if_pos p2, if_pos p3, if_pos p4, wrap_succ hi8.1 hi8.2]
theorem GlovesText_ev (l r : List Int) (hl : l.length ≤ 1048576) (hr : r.length ≤ 1048576) : ∃ v K, ∀ k, K ≤ k → spec_GlovesText.f k l r = some v ∧ impl_GlovesText.f k l r = some v := by
  obtain ⟨K1, h1⟩ := gvGood_ev l r (by omega) (by omega)
  obtain ⟨K2, h2⟩ := AreGloves_ev l r (by omega) (by omega)
  cases hg : gloveB l r with
  | false =>
    rw [hg] at h1 h2
    refine ⟨((⟨#[]⟩ : ByteArray), false), K1 + K2, fun k hk => ?_⟩
    simp (disch := omega) only [spec_GlovesText.f, impl_GlovesText.f, h1, h2, Option.bind_some, Bool.false_eq_true, if_false, and_self]
  | true =>
    rw [hg] at h1 h2
    obtain ⟨_, b1, b2, b3, b4, _⟩ := gloveB_iff.1 hg
    obtain ⟨s, ⟨K3, h3⟩, ⟨K4, h4⟩⟩ := text_l l r b1 b2 b3 b4 l.length 0 (⟨#[]⟩ : ByteArray) (by omega) (by omega) (by show (0 : Nat) ≤ _; omega)
    refine ⟨(s, true), K1 + K2 + K3 + K4, fun k hk => ?_⟩
    have e3 : spec_gvText.f k l r = some s := h3 k (by omega)
    have e4 : impl_GlovesText.l0 k (⟨#[]⟩ : ByteArray) l l.length 0 l r = some (s, true) := h4 k (by omega)
    simp (disch := omega) only [spec_GlovesText.f, impl_GlovesText.f, h1, h2, Option.bind_some, if_true, e3, e4, and_self]

end Go.Proofs.YtakdcikmflpioaaDoor.Pure
