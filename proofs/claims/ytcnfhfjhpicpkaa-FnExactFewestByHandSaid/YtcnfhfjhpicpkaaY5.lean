/- Plain lemmas over the printed functions of this seat. -/
import Derived.Test.YtcnfhfjhpicpkaaY4
import Derived.Test.YtcnfhfjhpicpkaaPx10
set_option linter.unusedVariables false
set_option linter.unusedSimpArgs false
namespace Go.Proofs.Ytcnfhfjhpicpkaa.Pure
open Go.RowKit Go.Proofs.Ytcnfhfjhpicpkaa.P Go.Proofs.YtcnfhfjhpicpkaaW.PrintWords Go.Proofs.YtcnfhfjhpicpkaaW.PrintLast Go.Proofs.YtcnfhfjhpicpkaaW.PrintMore

theorem bad_all : ∀ (l r : List Int) (x y : Int), l.length = r.length → x ≤ l.sum → y ≤ 0 → bad l r x y = true := by
  intro l
  induction l with
  | nil => intro r x y h h1 h2; rw [bad_nil]; simp at h1; simp [h1, h2]
  | cons a l ih =>
    intro r x y h h1 h2
    cases r with
    | nil => simp at h
    | cons b r =>
      simp only [List.length_cons] at h
      rw [List.sum_cons] at h1
      simp only [bad, Bool.or_eq_true]
      exact .inl (ih r (x - a) y (by omega) (by omega) h2)
/-- What 'least rights' answers. -/
def LR (l r : List Int) (a v : Int) : Prop := (v = -1 ∧ ∀ y, 0 ≤ y → y ≤ r.sum → bad l r a y = true) ∨ (1 ≤ v ∧ v ≤ r.sum ∧ bad l r a v = false ∧ ∀ y, y < v → bad l r a y = true)
theorem lr_l (l r : List Int) (h1 : l.length ≤ 8) (h2 : r.length = l.length) (hl : ∀ x ∈ l, 0 ≤ x ∧ x ≤ 20) (hr : ∀ x ∈ r, 0 ≤ x ∧ x ≤ 20) (a : Int) (ha : 1 ≤ a ∧ a ≤ l.sum) (ha2 : a ≤ 1000) : ∀ n : Nat, n ≤ 1000 → bad l r a n = false → ∃ v : Int, 1 ≤ v ∧ v ≤ n ∧ bad l r a v = false ∧ (∀ y, y < v → bad l r a y = true) ∧ Ev (fun k => impl_Gloves_leastRights.l0 k a n l r) v := by
  intro n
  induction n with
  | zero => intro _ h; rw [bad_all l r a _ h2.symm ha.2 (by omega)] at h; simp at h
  | succ n ih =>
    intro hn hb
    have hs := isSafe_ev l r h1 h2 hl hr a n (by omega) (by omega)
    obtain ⟨K, hK⟩ := hs
    have d0 : ((n + 1 : Nat) : Int) > 0 := by omega
    have e : wrap64 (((n + 1 : Nat) : Int) - 1) = (n : Int) := by rw [wrap_small (by omega) (by omega)]; omega
    cases hbn : bad l r a n with
    | false =>
      obtain ⟨v, v1, v2, v3, v4, ev⟩ := ih (by omega) hbn
      refine ⟨v, v1, by omega, v3, v4, Ev.stepFrom ev K (fun k hk => ?_)⟩
      have hK := hK k hk
      simp only [hbn] at hK
      simp only [impl_Gloves_leastRights.l0]
      rw [if_pos d0, e, hK, Option.bind_some]
      rfl
    | true =>
      refine ⟨((n + 1 : Nat) : Int), by omega, by omega, hb, fun y hy => bad_mono l r a n a y (by omega) (by omega) hbn, K + 1, fun k hk => ?_⟩
      obtain ⟨m, rfl⟩ : ∃ m, k = m + 1 := ⟨k - 1, by omega⟩
      have hK := hK m (by omega)
      simp only [hbn] at hK
      simp only [impl_Gloves_leastRights.l0]
      rw [if_pos d0, e, hK, Option.bind_some]
      rfl
theorem lr_ev (l r : List Int) (h1 : l.length ≤ 8) (h2 : r.length = l.length) (hl : ∀ x ∈ l, 0 ≤ x ∧ x ≤ 20) (hr : ∀ x ∈ r, 0 ≤ x ∧ x ≤ 20) (a : Int) (ha : 1 ≤ a ∧ a ≤ l.sum) : ∃ v : Int, LR l r a v ∧ Ev (fun k => impl_Gloves_leastRights.f k l r a) v := by
  obtain ⟨s1, s2, s3⟩ := small_sum l h1 hl
  obtain ⟨t1, t2, t3⟩ := small_sum r (by omega) hr
  obtain ⟨K1, k1⟩ := total_ev r (by omega)
  obtain ⟨K2, k2⟩ := isSafe_ev l r h1 h2 hl hr a r.sum (by omega) (by omega)
  simp only at k2
  cases hb : bad l r a r.sum with
  | true =>
    refine ⟨-1, .inl ⟨rfl, fun y h3 h4 => bad_mono l r a r.sum a y (by omega) h4 hb⟩, K1 + K2, fun k hk => ?_⟩
    have q1 := k1 k (by omega)
    have q2 := k2 k (by omega)
    simp only [impl_Gloves_leastRights.f]
    rw [q1, Option.bind_some, t1, q2, hb, Option.bind_some]
    rfl
  | false =>
    obtain ⟨n, hn⟩ : ∃ n : Nat, r.sum = (n : Int) := ⟨r.sum.toNat, by omega⟩
    obtain ⟨v, v1, v2, v3, v4, K3, k3⟩ := lr_l l r h1 h2 hl hr a ha (by omega) n (by omega) (by rw [← hn]; exact hb)
    refine ⟨v, .inr ⟨v1, by omega, v3, v4⟩, K1 + K2 + K3, fun k hk => ?_⟩
    have q1 := k1 k (by omega)
    have q2 := k2 k (by omega)
    have q3 := k3 k (by omega)
    simp only at q3
    simp only [impl_Gloves_leastRights.f]
    rw [q1, Option.bind_some, t1, q2, hb, Option.bind_some, hn]
    exact q3

end Go.Proofs.Ytcnfhfjhpicpkaa.Pure
