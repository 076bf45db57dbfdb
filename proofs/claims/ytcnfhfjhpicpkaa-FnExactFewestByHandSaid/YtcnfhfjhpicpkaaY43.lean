/- Plain lemmas over the printed functions of this seat. -/
import Derived.Test.YtcnfhfjhpicpkaaY5
import Derived.Test.YtcnfhfjhpicpkaaPx21
import Derived.Test.YtcnfhfjhpicpkaaPx5
set_option linter.unusedVariables false
set_option linter.unusedSimpArgs false
namespace Go.Proofs.Ytcnfhfjhpicpkaa.Pure
open Go.RowKit Go.Proofs.Ytcnfhfjhpicpkaa.P Go.Proofs.YtcnfhfjhpicpkaaW.PrintWords Go.Proofs.YtcnfhfjhpicpkaaW.PrintLast Go.Proofs.YtcnfhfjhpicpkaaW.PrintMore

theorem l1Most_eq (a b : Int) : spec_l1Most.f a b = some (mx a b) := by unfold spec_l1Most.f mx; split <;> split <;> first | rfl | (congr 1; omega)
/-- 'a' lefts and t - a rights are enough. -/
def Hit (l r : List Int) (t a : Int) : Prop := 1 ≤ a ∧ a ≤ l.sum ∧ a < t ∧ t - a ≤ r.sum ∧ bad l r a (t - a) = false
theorem fs_skip (l r : List Int) (h1 : l.length ≤ 8) (h2 : r.length = l.length) (hl : ∀ x ∈ l, 0 ≤ x ∧ x ≤ 20) (hr : ∀ x ∈ r, 0 ≤ x ∧ x ≤ 20) (t : Nat) (ht : (t : Int) ≤ l.sum + r.sum) (res : Int × Int × Bool)
    (e : Ev (fun k => spec_FewestByHand.l0 k l.sum r.sum ((t + 1 : Nat) : Int) l r) res) : ∀ (n a : Nat), l.sum + 1 - a = n → 1 ≤ a → (t : Int) - a ≤ r.sum → (∀ b : Int, (a : Int) ≤ b → ¬ Hit l r t b) → Ev (fun k => spec_FewestByHand.l1 k l.sum r.sum t a l r) res := by
  obtain ⟨s1, s2, s3⟩ := small_sum l h1 hl
  obtain ⟨t1, t2, t3⟩ := small_sum r (by omega) hr
  have bt : t < 1000 := by omega
  have stop : ∀ a : Nat, ¬ ((a : Int) ≤ l.sum ∧ (a : Int) < t) → Ev (fun k => spec_FewestByHand.l1 k l.sum r.sum t a l r) res := by
    intro a h
    have et := wrap_succ bt (by omega)
    by_cases h3 : (a : Int) ≤ l.sum
    · have h4 : decide ((a : Int) < (t : Int)) = false := decide_eq_false (fun h5 => h ⟨h3, h5⟩)
      refine Ev.step (Ev.step e (f := fun k => spec_FewestByHand.j2 k l.sum r.sum t a false l r) (fun k => ?_)) (fun k => ?_)
      · simp only [spec_FewestByHand.j2]
        rw [if_neg Bool.false_ne_true, et]
      · simp only [spec_FewestByHand.l1]
        rw [if_pos h3, h4]
    · refine Ev.step (Ev.step e (f := fun k => spec_FewestByHand.j2 k l.sum r.sum t a false l r) (fun k => ?_)) (fun k => ?_)
      · simp only [spec_FewestByHand.j2]
        rw [if_neg Bool.false_ne_true, et]
      · simp only [spec_FewestByHand.l1]
        rw [if_neg h3]
  intro n
  induction n with
  | zero => intro a hd ha hta hno; exact stop a (by omega)
  | succ n ih =>
    intro a hd ha hta hno
    by_cases h : (a : Int) ≤ l.sum ∧ (a : Int) < t
    · have ih' := ih (a + 1) (by omega) (by omega) (by omega) (fun b hb => hno b (by omega))
      have hb : bad l r a ((t : Int) - a) = true := by
        cases hb : bad l r a ((t : Int) - a) with
        | true => rfl
        | false => exact absurd ⟨by omega, h.1, h.2, hta, hb⟩ (hno a (by omega))
      obtain ⟨K, hK⟩ := gvSafe_ev l r h1 h2 hl hr a ((t : Int) - a) (by omega) (by omega)
      simp only at hK
      have d1 : decide ((a : Int) < (t : Int)) = true := decide_eq_true h.2
      have ba : a < 1000 := by omega
      have c1 := wsub (x := (t : Int)) (a := (a : Int)) (by omega) (by omega)
      have ea := wrap_succ ba (by omega)
      refine Ev.step (Ev.stepFrom ih' K (f := fun k => spec_FewestByHand.j2 k l.sum r.sum t a true l r) (fun k hk => ?_)) (fun k => ?_)
      · simp only [spec_FewestByHand.j2]
        rw [if_pos trivial, c1, hK k hk, hb, Option.bind_some, ea]
        rfl
      · simp only [spec_FewestByHand.l1]
        rw [if_pos h.1, d1]
    · exact stop a h
theorem fs_hit (l r : List Int) (h1 : l.length ≤ 8) (h2 : r.length = l.length) (hl : ∀ x ∈ l, 0 ≤ x ∧ x ≤ 20) (hr : ∀ x ∈ r, 0 ≤ x ∧ x ≤ 20) (t : Nat) (a0 : Int) (hh : Hit l r t a0) : ∀ (n a : Nat), a0 - a = n → 1 ≤ a → (a : Int) ≤ a0 → (t : Int) - a ≤ r.sum → (∀ b : Int, b < a0 → ¬ Hit l r t b) → Ev (fun k => spec_FewestByHand.l1 k l.sum r.sum t a l r) (a0, t - a0, true) := by
  obtain ⟨s1, s2, s3⟩ := small_sum l h1 hl
  obtain ⟨t1, t2, t3⟩ := small_sum r (by omega) hr
  obtain ⟨q1, q2, q3, q4, q5⟩ := hh
  intro n
  induction n with
  | zero =>
    intro a hd ha hle hta hno
    obtain rfl : a0 = a := by omega
    obtain ⟨K, hK⟩ := gvSafe_ev l r h1 h2 hl hr a ((t : Int) - a) (by omega) (by omega)
    simp only at hK
    have d1 : decide ((a : Int) < (t : Int)) = true := decide_eq_true q3
    have c1 := wsub (x := (t : Int)) (a := (a : Int)) (by omega) (by omega)
    refine ⟨K + 2, fun k hk => ?_⟩
    obtain ⟨m, rfl⟩ : ∃ m, k = m + 1 + 1 := ⟨k - 2, by omega⟩
    simp only [spec_FewestByHand.l1, spec_FewestByHand.j2]
    rw [if_pos q2, d1, if_pos (rfl : true = true), c1, hK m (by omega), q5, Option.bind_some]
    rfl
  | succ n ih =>
    intro a hd ha hle hta hno
    have ih' := ih (a + 1) (by omega) (by omega) (by omega) (by omega) hno
    have hb : bad l r a ((t : Int) - a) = true := by
      cases hb : bad l r a ((t : Int) - a) with
      | true => rfl
      | false => exact absurd ⟨by omega, by omega, by omega, hta, hb⟩ (hno a (by omega))
    obtain ⟨K, hK⟩ := gvSafe_ev l r h1 h2 hl hr a ((t : Int) - a) (by omega) (by omega)
    simp only at hK
    have d0 : (a : Int) ≤ l.sum := by omega
    have d1 : decide ((a : Int) < (t : Int)) = true := decide_eq_true (by omega)
    have ba : a < 1000 := by omega
    have c1 := wsub (x := (t : Int)) (a := (a : Int)) (by omega) (by omega)
    have ea := wrap_succ ba (by omega)
    refine Ev.step (Ev.stepFrom ih' K (f := fun k => spec_FewestByHand.j2 k l.sum r.sum t a true l r) (fun k hk => ?_)) (fun k => ?_)
    · simp only [spec_FewestByHand.j2]
      rw [if_pos trivial, c1, hK k hk, hb, Option.bind_some, ea]
      rfl
    · simp only [spec_FewestByHand.l1]
      rw [if_pos d0, d1]
/-- The first step of a round: where the lefts begin. -/
theorem fs_first (l r : List Int) (h1 : l.length ≤ 8) (h2 : r.length = l.length) (hl : ∀ x ∈ l, 0 ≤ x ∧ x ≤ 20) (hr : ∀ x ∈ r, 0 ≤ x ∧ x ≤ 20) (t : Nat) (ht : (t : Int) ≤ l.sum + r.sum) (res : Int × Int × Bool) (a : Nat) (ha : (a : Int) = mx 1 ((t : Int) - r.sum))
    (e : Ev (fun k => spec_FewestByHand.l1 k l.sum r.sum t a l r) res) : Ev (fun k => spec_FewestByHand.l0 k l.sum r.sum t l r) res := by
  obtain ⟨s1, s2, s3⟩ := small_sum l h1 hl
  obtain ⟨t1, t2, t3⟩ := small_sum r (by omega) hr
  have c1 := wadd (x := l.sum) (a := r.sum) (by omega) (by omega)
  have c2 := wsub (x := (t : Int)) (a := r.sum) (by omega) (by omega)
  refine Ev.step e (fun k => ?_)
  simp only [spec_FewestByHand.l0]
  rw [c1, if_pos ht, c2, l1Most_eq, Option.bind_some, ha]
theorem fs_none (l r : List Int) (h1 : l.length ≤ 8) (h2 : r.length = l.length) (hl : ∀ x ∈ l, 0 ≤ x ∧ x ≤ 20) (hr : ∀ x ∈ r, 0 ≤ x ∧ x ≤ 20) (hno : ∀ t a, ¬ Hit l r t a) : ∀ (n t : Nat), l.sum + r.sum + 1 - t = n → (t : Int) ≤ l.sum + r.sum + 1 → Ev (fun k => spec_FewestByHand.l0 k l.sum r.sum t l r) (0, 0, false) := by
  obtain ⟨s1, s2, s3⟩ := small_sum l h1 hl
  obtain ⟨t1, t2, t3⟩ := small_sum r (by omega) hr
  intro n
  induction n with
  | zero =>
    intro t hd ht
    have c1 := wadd (x := l.sum) (a := r.sum) (by omega) (by omega)
    refine Ev.now (fun k => ?_)
    simp only [spec_FewestByHand.l0]
    rw [c1, if_neg (by omega)]
  | succ n ih =>
    intro t hd ht
    have ih' := ih (t + 1) (by omega) (by omega)
    have hmx : mx 1 ((t : Int) - r.sum) = max 1 ((t : Int) - r.sum) := by unfold mx; omega
    refine fs_first l r h1 h2 hl hr t (by omega) _ (mx 1 ((t : Int) - r.sum)).toNat (by omega) ?_
    exact fs_skip l r h1 h2 hl hr t (by omega) _ ih' (l.sum + 1 - (mx 1 ((t : Int) - r.sum)).toNat).toNat _ (by omega) (by omega) (by omega) (fun b _ => hno t b)
theorem fs_some (l r : List Int) (h1 : l.length ≤ 8) (h2 : r.length = l.length) (hl : ∀ x ∈ l, 0 ≤ x ∧ x ≤ 20) (hr : ∀ x ∈ r, 0 ≤ x ∧ x ≤ 20) (t0 a0 : Int) (hh : Hit l r t0 a0) (hmin : ∀ t a, Hit l r t a → t0 < t ∨ (t0 = t ∧ a0 ≤ a)) : ∀ (n t : Nat), t0 - t = n → (t : Int) ≤ t0 → Ev (fun k => spec_FewestByHand.l0 k l.sum r.sum t l r) (a0, t0 - a0, true) := by
  obtain ⟨s1, s2, s3⟩ := small_sum l h1 hl
  obtain ⟨t1, t2, t3⟩ := small_sum r (by omega) hr
  obtain ⟨q1, q2, q3, q4, q5⟩ := id hh
  intro n
  induction n with
  | zero =>
    intro t hd ht
    obtain rfl : t0 = t := by omega
    have hmx : mx 1 ((t : Int) - r.sum) = max 1 ((t : Int) - r.sum) := by unfold mx; omega
    refine fs_first l r h1 h2 hl hr t (by omega) _ (mx 1 ((t : Int) - r.sum)).toNat (by omega) ?_
    exact fs_hit l r h1 h2 hl hr t a0 hh (a0 - (mx 1 ((t : Int) - r.sum)).toNat).toNat _ (by omega) (by omega) (by omega) (by omega) (fun b hb h => by have := hmin t b h; omega)
  | succ n ih =>
    intro t hd ht
    have ih' := ih (t + 1) (by omega) (by omega)
    have hmx : mx 1 ((t : Int) - r.sum) = max 1 ((t : Int) - r.sum) := by unfold mx; omega
    refine fs_first l r h1 h2 hl hr t (by omega) _ (mx 1 ((t : Int) - r.sum)).toNat (by omega) ?_
    exact fs_skip l r h1 h2 hl hr t (by omega) _ ih' (l.sum + 1 - (mx 1 ((t : Int) - r.sum)).toNat).toNat _ (by omega) (by omega) (by omega) (fun b _ h => by have := hmin t b h; omega)
/-- The best so far, of the lefts below a. -/
def Best (l r : List Int) (v : Int → Int) (a p q : Int) : Prop := (p = -1 ∧ ∀ b, 1 ≤ b → b < a → v b = -1) ∨ (1 ≤ p ∧ p < a ∧ q = v p ∧ 1 ≤ v p ∧ ∀ b, 1 ≤ b → b < a → 1 ≤ v b → p + q < b + v b ∨ (p + q = b + v b ∧ p ≤ b))
theorem fi_l (l r : List Int) (h1 : l.length ≤ 8) (h2 : r.length = l.length) (hl : ∀ x ∈ l, 0 ≤ x ∧ x ≤ 20) (hr : ∀ x ∈ r, 0 ≤ x ∧ x ≤ 20) (v : Int → Int) (hv : ∀ a, 1 ≤ a → a ≤ l.sum → LR l r a (v a) ∧ Ev (fun k => impl_Gloves_leastRights.f k l r a) (v a)) :
    ∀ (n a : Nat) (p q : Int), l.sum + 1 - a = n → 1 ≤ a → (a : Int) ≤ l.sum + 1 → Best l r v a p q → ∃ p' q', Best l r v (l.sum + 1) p' q' ∧ Ev (fun k => impl_FewestByHand.l0 k p q a l r) (if p' < 0 then (0, 0, false) else (p', q', true)) := by
  obtain ⟨s1, s2, s3⟩ := small_sum l h1 hl
  obtain ⟨t1, t2, t3⟩ := small_sum r (by omega) hr
  obtain ⟨K1, k1⟩ := total_ev l (by omega)
  rw [s1] at k1
  intro n
  induction n with
  | zero =>
    intro a p q hd ha hle hB
    rw [show (a : Int) = l.sum + 1 by omega] at hB
    refine ⟨p, q, hB, K1 + 1, fun k hk => ?_⟩
    obtain ⟨m, rfl⟩ : ∃ m, k = m + 1 := ⟨k - 1, by omega⟩
    simp only [impl_FewestByHand.l0]
    rw [k1 m (by omega), Option.bind_some, if_neg (by omega)]
    by_cases hp : p < 0
    · rw [if_pos hp, if_pos hp]
    · rw [if_neg hp, if_neg hp]
  | succ n ih =>
    intro a p q hd ha hle hB
    have d1 : (a : Int) ≤ l.sum := by omega
    obtain ⟨hLR, K2, k2⟩ := hv a (by omega) d1
    simp only at k2
    have ba : a < 1000 := by omega
    have ea := wrap_succ ba (by omega)
    have hvb : v a = -1 ∨ (1 ≤ v a ∧ v a ≤ 160) := by rcases hLR with h | h <;> omega
    rcases hvb with hva | ⟨hva, hvc⟩
    · -- no rights are enough
      have hB' : Best l r v ((a + 1 : Nat) : Int) p q := by
        rcases hB with ⟨b1, b2⟩ | ⟨b1, b2, b3, b4, b5⟩
        · exact .inl ⟨b1, fun b h3 h4 => by
            by_cases h : b = a
            · rw [h]; exact hva
            · exact b2 b h3 (by omega)⟩
        · exact .inr ⟨b1, by omega, b3, b4, fun b h3 h4 h5 => by
            by_cases h : b = a
            · rw [h] at h5; omega
            · exact b5 b h3 (by omega) h5⟩
      obtain ⟨p', q', g1, g2⟩ := ih (a + 1) p q (by omega) (by omega) (by omega) hB'
      refine ⟨p', q', g1, Ev.stepFrom g2 (K1 + K2) (fun k hk => ?_)⟩
      simp only [impl_FewestByHand.l0]
      rw [k1 k (by omega), Option.bind_some, if_pos d1, k2 k (by omega), Option.bind_some, if_neg (by omega), ea]
    · have d2 : v a ≥ 0 := by omega
      rcases hB with ⟨b1, b2⟩ | ⟨b1, b2, b3, b4, b5⟩
      · have hB' : Best l r v ((a + 1 : Nat) : Int) a (v a) := .inr ⟨by omega, by omega, rfl, hva, fun b h3 h4 h5 => by
          by_cases h : b = a
          · rw [h]; exact .inr ⟨rfl, by omega⟩
          · have := b2 b h3 (by omega); omega⟩
        obtain ⟨p', q', g1, g2⟩ := ih (a + 1) a (v a) (by omega) (by omega) (by omega) hB'
        refine ⟨p', q', g1, Ev.stepFrom g2 (K1 + K2) (fun k hk => ?_)⟩
        simp only [impl_FewestByHand.l0]
        rw [k1 k (by omega), Option.bind_some, if_pos d1, k2 k (by omega), Option.bind_some, if_pos d2, if_pos (by omega), ea]
      · have hq : q ≤ 160 := by
          rcases (hv p b1 (by omega)).1 with h | h <;> omega
        by_cases hlt : (a : Int) + v a < p + q
        · have hB' : Best l r v ((a + 1 : Nat) : Int) a (v a) := .inr ⟨by omega, by omega, rfl, hva, fun b h3 h4 h5 => by
            by_cases h : b = a
            · rw [h]; exact .inr ⟨rfl, by omega⟩
            · have := b5 b h3 (by omega) h5; omega⟩
          obtain ⟨p', q', g1, g2⟩ := ih (a + 1) a (v a) (by omega) (by omega) (by omega) hB'
          have hp : ¬ (p < 0) := by omega
          have c1 := wadd (x := (a : Int)) (a := v a) (by omega) (by omega)
          have c2 := wadd (x := p) (a := q) (by omega) (by omega)
          refine ⟨p', q', g1, Ev.stepFrom g2 (K1 + K2) (fun k hk => ?_)⟩
          simp only [impl_FewestByHand.l0]
          rw [k1 k (by omega), Option.bind_some, if_pos d1, k2 k (by omega), Option.bind_some, if_pos d2, if_neg hp, c1, c2, if_pos hlt, ea]
        · have hB' : Best l r v ((a + 1 : Nat) : Int) p q := .inr ⟨b1, by omega, b3, b4, fun b h3 h4 h5 => by
            by_cases h : b = a
            · rw [h]; omega
            · exact b5 b h3 (by omega) h5⟩
          obtain ⟨p', q', g1, g2⟩ := ih (a + 1) p q (by omega) (by omega) (by omega) hB'
          have hp : ¬ (p < 0) := by omega
          have c1 := wadd (x := (a : Int)) (a := v a) (by omega) (by omega)
          have c2 := wadd (x := p) (a := q) (by omega) (by omega)
          refine ⟨p', q', g1, Ev.stepFrom g2 (K1 + K2) (fun k hk => ?_)⟩
          simp only [impl_FewestByHand.l0]
          rw [k1 k (by omega), Option.bind_some, if_pos d1, k2 k (by omega), Option.bind_some, if_pos d2, if_neg hp, c1, c2, if_neg hlt, ea]
theorem FewestByHand_ev (l r : List Int) (hl : l.length ≤ 1048576) (hr : r.length ≤ 1048576) : ∃ v K, ∀ k, K ≤ k → spec_FewestByHand.f k l r = some v ∧ impl_FewestByHand.f k l r = some v := by
  obtain ⟨K1, h1⟩ := gvGood_ev l r (by omega) (by omega)
  obtain ⟨K2, h2⟩ := AreGloves_ev l r (by omega) (by omega)
  obtain ⟨K5, h5⟩ := soSum_ev l (by omega)
  obtain ⟨K6, h6⟩ := soSum_ev r (by omega)
  cases hg : gloveB l r with
  | false =>
    refine ⟨(0, 0, false), K1 + K2, fun k hk => ?_⟩
    simp (disch := omega) only [spec_FewestByHand.f, impl_FewestByHand.f, h1, h2, hg, Option.bind_some, Bool.false_eq_true, if_false, and_self]
  | true =>
    obtain ⟨g1, g2, g3, g4, g5, g6⟩ := gloveB_iff.1 hg
    obtain ⟨s1, s2, s3⟩ := small_sum l g2 g4
    obtain ⟨t1, t2, t3⟩ := small_sum r (by omega) g5
    rw [s1] at h5
    rw [t1] at h6
    obtain ⟨v, hv⟩ : ∃ v : Int → Int, ∀ a, 1 ≤ a → a ≤ l.sum → LR l r a (v a) ∧ Ev (fun k => impl_Gloves_leastRights.f k l r a) (v a) := by
      have hex : ∀ a, ∃ w : Int, (1 ≤ a ∧ a ≤ l.sum) → LR l r a w ∧ Ev (fun k => impl_Gloves_leastRights.f k l r a) w := by
        intro a
        by_cases h : 1 ≤ a ∧ a ≤ l.sum
        · obtain ⟨w, hw⟩ := lr_ev l r g2 g3 g4 g5 a h
          exact ⟨w, fun _ => hw⟩
        · exact ⟨0, fun h' => absurd h' h⟩
      exact ⟨fun a => Classical.choose (hex a), fun a h3 h4 => Classical.choose_spec (hex a) ⟨h3, h4⟩⟩
    have hitv : ∀ t a, Hit l r t a → 1 ≤ v a ∧ v a ≤ t - a := by
      rintro t a ⟨q1, q2, q3, q4, q5⟩
      rcases (hv a q1 q2).1 with ⟨h3, h4⟩ | ⟨h3, h4, h5, h6⟩
      · rw [h4 (t - a) (by omega) q4] at q5; simp at q5
      · refine ⟨h3, ?_⟩
        by_cases h : t - a < v a
        · rw [h6 _ h] at q5; simp at q5
        · omega
    obtain ⟨p, q, hB, K3, h3⟩ := fi_l l r g2 g3 g4 g5 v hv l.sum.toNat 1 (-1) 0 (by omega) (by omega) (by omega) (.inl ⟨rfl, fun b h3 h4 => by omega⟩)
    simp only at h3
    have ei : ∀ k, K3 + K2 ≤ k → impl_FewestByHand.f k l r = some (if p < 0 then (0, 0, false) else (p, q, true)) := by
      intro k hk
      have h3 := h3 k (by omega)
      simp (disch := omega) only [impl_FewestByHand.f, h2, hg, Option.bind_some, if_true]
      exact h3
    rcases hB with ⟨b1, b2⟩ | ⟨b1, b2, b3, b4, b5⟩
    · obtain ⟨K4, h4⟩ := fs_none l r g2 g3 g4 g5 (fun t a h => by
        have x1 := hitv t a h
        obtain ⟨q1, q2, q3, q4, q5⟩ := h
        have x2 := b2 a q1 (by omega)
        omega) (l.sum + r.sum + 1 - 2).toNat 2 (by omega) (by omega)
      refine ⟨(0, 0, false), K1 + K2 + K3 + K4 + K5 + K6, fun k hk => ⟨?_, ?_⟩⟩
      · have h4 : spec_FewestByHand.l0 k l.sum r.sum 2 l r = some (0, 0, false) := h4 k (by omega)
        simp (disch := omega) only [spec_FewestByHand.f, h1, h5, h6, hg, Option.bind_some, if_true]
        exact h4
      · rw [ei k (by omega), if_pos (by omega)]
    · have hpv : LR l r p (v p) := (hv p b1 (by omega)).1
      have hpv2 : v p ≤ r.sum ∧ bad l r p (v p) = false := by
        rcases hpv with h | h
        · omega
        · exact ⟨h.2.1, h.2.2.1⟩
      have hh : Hit l r (p + q) p := ⟨b1, by omega, by omega, by omega, by rw [show p + q - p = v p by omega]; exact hpv2.2⟩
      have hmin : ∀ t a, Hit l r t a → p + q < t ∨ (p + q = t ∧ p ≤ a) := by
        intro t a h
        have x1 := hitv t a h
        obtain ⟨q1, q2, q3, q4, q5⟩ := h
        have := b5 a q1 (by omega) x1.1
        omega
      obtain ⟨K4, h4⟩ := fs_some l r g2 g3 g4 g5 (p + q) p hh hmin (p + q - 2).toNat 2 (by omega) (by omega)
      refine ⟨(p, q, true), K1 + K2 + K3 + K4 + K5 + K6, fun k hk => ⟨?_, ?_⟩⟩
      · have h4 : spec_FewestByHand.l0 k l.sum r.sum 2 l r = some (p, p + q - p, true) := h4 k (by omega)
        rw [show p + q - p = q by omega] at h4
        simp (disch := omega) only [spec_FewestByHand.f, h1, h5, h6, hg, Option.bind_some, if_true]
        exact h4
      · rw [ei k (by omega), if_neg (by omega)]

end Go.Proofs.Ytcnfhfjhpicpkaa.Pure
