/- Plain lemmas over the printed functions of this seat. -/
import Derived.Test.YtjldifjfgeifcaaY10
set_option linter.unusedVariables false
set_option linter.unusedSimpArgs false
namespace Go.Proofs.Ytjldifjfgeifcaa.Pure
open Go.RowKit Go.Proofs.Ytjldifjfgeifcaa.P Go.Proofs.YtjldifjfgeifcaaW.PrintWords Go.Proofs.YtjldifjfgeifcaaW.PrintLast Go.Proofs.YtjldifjfgeifcaaW.PrintMore

/-! ### draws by their pairs and their socks -/
def Ch : List Int → Nat → Int → Prop
  | [], q, s => q = 0 ∧ s = 0
  | n :: l, q, s => ∃ c : Nat, (c : Int) ≤ n ∧ c / 2 ≤ q ∧ Ch l (q - c / 2) (s - c)
theorem ch_zero : ∀ l : List Int, (∀ x ∈ l, 0 ≤ x) → Ch l 0 0 := by
  intro l
  induction l with
  | nil => intro _; exact ⟨rfl, rfl⟩
  | cons n l ih => intro h; exact ⟨0, h n (by simp), by simp, by simpa using ih (fun x hx => h x (by simp [hx]))⟩
theorem mx_le {a b c : Int} : mx a b ≤ c ↔ a ≤ c ∧ b ≤ c := by unfold mx; split <;> omega
theorem mx_or (a b : Int) : mx a b = a ∨ mx a b = b := by unfold mx; split <;> simp
theorem le_mx (a b : Int) : a ≤ mx a b ∧ b ≤ mx a b := by unfold mx; split <;> omega
theorem inner_prop (f : Nat → Int) (n : Int) (q : Nat) (B : Int) (hB : B ≤ 1000000) (hf : ∀ j, 0 ≤ f j ∧ f j ≤ B) (hn : n ≤ 20) : ∀ (m c : Nat) (v : Int), 21 ≤ c + m → c ≤ 21 → 0 ≤ v → v ≤ B + 20 →
    v ≤ inner f n q m c v ∧ inner f n q m c v ≤ B + 20 ∧ (inner f n q m c v = v ∨ ∃ c' : Nat, (c' : Int) ≤ n ∧ c' / 2 ≤ q ∧ inner f n q m c v = c' + f (q - c' / 2)) ∧ ∀ c' : Nat, c ≤ c' → (c' : Int) ≤ n → c' / 2 ≤ q → c' + f (q - c' / 2) ≤ inner f n q m c v := by
  intro m
  induction m with
  | zero =>
    intro c v h1 h2 h3 h4
    simp only [inner]
    exact ⟨Int.le_refl _, h4, .inl (by trivial), fun c' a b => by omega⟩
  | succ m ih =>
    intro c v h1 h2 h3 h4
    by_cases h : (c : Int) ≤ n ∧ c / 2 ≤ q
    · have e : wrap64 (c + f (q - c / 2)) = c + f (q - c / 2) := by have := hf (q - c / 2); exact wrap_small (by omega) (by omega)
      simp only [inner, if_pos h, e]
      have hfc := hf (q - c / 2)
      have hm := le_mx v (c + f (q - c / 2))
      have hm2 : mx v (c + f (q - c / 2)) ≤ B + 20 := mx_le.2 ⟨h4, by omega⟩
      obtain ⟨i1, i2, i3, i4⟩ := ih (c + 1) (mx v (c + f (q - c / 2))) (by omega) (by omega) (by omega) hm2
      refine ⟨by omega, i2, ?_, ?_⟩
      · rcases i3 with i3 | i3
        · rcases mx_or v (c + f (q - c / 2)) with a | a
          · exact .inl (i3.trans a)
          · exact .inr ⟨c, h.1, h.2, i3.trans a⟩
        · exact .inr i3
      · intro c' a b d
        by_cases hc : c' = c
        · subst hc; omega
        · exact i4 c' (by omega) b d
    · simp only [inner, if_neg h]
      exact ⟨Int.le_refl _, h4, .inl (by trivial), fun c' a b d => absurd ⟨by omega, by omega⟩ h⟩
theorem W_prop : ∀ l : List Int, l.length ≤ 1000 → (∀ x ∈ l, 0 ≤ x ∧ x ≤ 20) → ∀ q, 0 ≤ W l q ∧ W l q ≤ 20 * l.length ∧ (∃ q', q' ≤ q ∧ Ch l q' (W l q)) ∧ ∀ q' s, q' ≤ q → Ch l q' s → s ≤ W l q := by
  intro l
  induction l with
  | nil => intro _ _ q; exact ⟨by simp [W], by simp [W], ⟨0, by omega, rfl, rfl⟩, fun q' s _ h => by obtain ⟨_, rfl⟩ := h; simp [W]⟩
  | cons n l ih =>
    intro hl hx q
    simp only [List.length_cons] at hl ⊢
    have ih := ih (by omega) (fun x h => hx x (by simp [h]))
    have hn := hx n (by simp)
    obtain ⟨i1, i2, i3, i4⟩ := inner_prop (W l) n q (20 * l.length) (by omega) (fun j => ⟨(ih j).1, (ih j).2.1⟩) hn.2 22 0 0 (by omega) (by omega) (by omega) (by omega)
    have eW : W (n :: l) q = inner (W l) n q 22 0 0 := rfl
    rw [eW]
    generalize inner (W l) n q 22 0 0 = v at *
    refine ⟨i1, by omega, ?_, ?_⟩
    · rcases i3 with i3 | ⟨c, a, b, d⟩
      · refine ⟨0, by omega, ?_⟩
        rw [i3]; exact ch_zero _ (fun x h => (hx x h).1)
      · obtain ⟨q', b1, b2⟩ := (ih (q - c / 2)).2.2.1
        refine ⟨q' + c / 2, by omega, c, a, by omega, ?_⟩
        rw [show q' + c / 2 - c / 2 = q' by omega, show v - (c : Int) = W l (q - c / 2) by omega]
        exact b2
    · rintro q' s hq ⟨c, a, b, d⟩
      have := (ih (q - c / 2)).2.2.2 (q' - c / 2) (s - c) (by omega) d
      have := i4 c (by omega) a (by omega)
      omega
theorem inner2_prop (f : Nat → Int) (n : Int) (q : Nat) (B : Int) (hB : B ≤ 1000000) (hB0 : 0 ≤ B) (hf : ∀ j, f j ≤ B) (hn : n ≤ 20) : ∀ (m c : Nat) (v : Int), 21 ≤ c + m → c ≤ 21 → v ≤ B + 20 →
    v ≤ inner2 f n q m c v ∧ inner2 f n q m c v ≤ B + 20 ∧ (inner2 f n q m c v = v ∨ ∃ c' : Nat, (c' : Int) ≤ n ∧ c' / 2 ≤ q ∧ 0 ≤ f (q - c' / 2) ∧ inner2 f n q m c v = f (q - c' / 2) + c') ∧ ∀ c' : Nat, c ≤ c' → (c' : Int) ≤ n → c' / 2 ≤ q → 0 ≤ f (q - c' / 2) → f (q - c' / 2) + c' ≤ inner2 f n q m c v := by
  intro m
  induction m with
  | zero =>
    intro c v h1 h2 h4
    simp only [inner2]
    exact ⟨Int.le_refl _, h4, .inl (by trivial), fun c' a b => by omega⟩
  | succ m ih =>
    intro c v h1 h2 h4
    by_cases h : (c : Int) ≤ n ∧ c / 2 ≤ q
    · simp only [inner2, if_pos h]
      have hfc := hf (q - c / 2)
      by_cases h0 : f (q - c / 2) ≥ 0
      · have e : wrap64 (f (q - c / 2) + c) = f (q - c / 2) + c := wrap_small (by omega) (by omega)
        rw [if_pos h0, e]
        have hm := le_mx v (f (q - c / 2) + c)
        have hm2 : mx v (f (q - c / 2) + c) ≤ B + 20 := mx_le.2 ⟨h4, by omega⟩
        obtain ⟨i1, i2, i3, i4⟩ := ih (c + 1) (mx v (f (q - c / 2) + c)) (by omega) (by omega) hm2
        refine ⟨by omega, i2, ?_, ?_⟩
        · rcases i3 with i3 | i3
          · rcases mx_or v (f (q - c / 2) + c) with a | a
            · exact .inl (i3.trans a)
            · exact .inr ⟨c, h.1, h.2, h0, i3.trans a⟩
          · exact .inr i3
        · intro c' a b d g
          by_cases hc : c' = c
          · subst hc; omega
          · exact i4 c' (by omega) b d g
      · rw [if_neg h0]
        obtain ⟨i1, i2, i3, i4⟩ := ih (c + 1) v (by omega) (by omega) h4
        refine ⟨i1, i2, i3, ?_⟩
        intro c' a b d g
        by_cases hc : c' = c
        · subst hc; omega
        · exact i4 c' (by omega) b d g
    · simp only [inner2, if_neg h]
      exact ⟨Int.le_refl _, h4, .inl (by trivial), fun c' a b d => absurd ⟨by omega, by omega⟩ h⟩
def stepR (n : Int) (S : Nat → Int → Prop) : Nat → Int → Prop := fun q s => ∃ c : Nat, (c : Int) ≤ n ∧ c / 2 ≤ q ∧ S (q - c / 2) (s - c)
def Rel (S : Nat → Int → Prop) : List Int → Nat → Int → Prop
  | [] => S
  | n :: l => Rel (stepR n S) l
theorem rel_iff : ∀ (l : List Int) (S : Nat → Int → Prop) (q : Nat) (s : Int), Rel S l q s ↔ ∃ q1 s1, q1 ≤ q ∧ Ch l q1 s1 ∧ S (q - q1) (s - s1) := by
  intro l
  induction l with
  | nil =>
    intro S q s
    constructor
    · intro h; exact ⟨0, 0, by omega, ⟨rfl, rfl⟩, by simpa [Rel] using h⟩
    · rintro ⟨q1, s1, h, ⟨rfl, rfl⟩, h3⟩; simpa [Rel] using h3
  | cons n l ih =>
    intro S q s
    show Rel (stepR n S) l q s ↔ _
    rw [ih]
    constructor
    · rintro ⟨q1, s1, h1, h2, c, h3, h4, h5⟩
      refine ⟨q1 + c / 2, s1 + c, by omega, ⟨c, h3, by omega, ?_⟩, ?_⟩
      · rw [show q1 + c / 2 - c / 2 = q1 by omega, show s1 + (c : Int) - c = s1 by omega]; exact h2
      · rw [show q - (q1 + c / 2) = q - q1 - c / 2 by omega, show s - (s1 + (c : Int)) = s - s1 - c by omega]; exact h5
    · rintro ⟨q2, s2, h1, ⟨c, h3, h4, h5⟩, h6⟩
      refine ⟨q2 - c / 2, s2 - c, by omega, h5, c, h3, by omega, ?_⟩
      rw [show q - (q2 - c / 2) - c / 2 = q - q2 by omega, show s - (s2 - (c : Int)) - c = s - s2 by omega]; exact h6
def Char (S : Nat → Int → Prop) (f : Nat → Int) (B : Int) : Prop := ∀ q, -1 ≤ f q ∧ f q ≤ B ∧ (0 ≤ f q → S q (f q)) ∧ ∀ s, S q s → 0 ≤ f q ∧ s ≤ f q
theorem char_next (S : Nat → Int → Prop) (f : Nat → Int) (B n : Int) (hB : B ≤ 1000000) (hB0 : 0 ≤ B) (hn : n ≤ 20) (h : Char S f B) : Char (stepR n S) (nextB n f) (B + 20) := by
  intro q
  obtain ⟨i1, i2, i3, i4⟩ := inner2_prop f n q B hB hB0 (fun j => (h j).2.1) hn 22 0 (-1) (by omega) (by omega) (by omega)
  unfold nextB
  refine ⟨i1, i2, fun h0 => ?_, ?_⟩
  · rcases i3 with i3 | ⟨c, a, b, d, e⟩
    · omega
    · refine ⟨c, a, b, ?_⟩
      rw [show inner2 f n q 22 0 (-1) - (c : Int) = f (q - c / 2) by omega]
      exact (h (q - c / 2)).2.2.1 d
  · rintro s ⟨c, a, b, d⟩
    obtain ⟨h1, h2⟩ := (h (q - c / 2)).2.2.2 _ d
    have := i4 c (by omega) a b h1
    omega
theorem char_row : ∀ (l : List Int) (S : Nat → Int → Prop) (f : Nat → Int) (B : Int), 0 ≤ B → B + 20 * l.length ≤ 1000000 → (∀ x ∈ l, x ≤ 20) → Char S f B → Char (Rel S l) (rowB f l) (B + 20 * l.length) := by
  intro l
  induction l with
  | nil => intro S f B h0 h1 _ h; simpa [Rel, rowB] using h
  | cons n l ih =>
    intro S f B h0 h1 hx h
    simp only [List.length_cons] at h1 ⊢
    have := ih (stepR n S) (nextB n f) (B + 20) (by omega) (by omega) (fun x h => hx x (by simp [h])) (char_next S f B n (by omega) h0 (hx n (by simp)) h)
    rw [show B + 20 * ((l.length + 1 : Nat) : Int) = B + 20 + 20 * l.length by omega]
    exact this
theorem top_prop (f : Nat → Int) : ∀ m, (top f m = 0 ∨ ∃ q, q < m ∧ top f m = f q) ∧ 0 ≤ top f m ∧ ∀ q, q < m → f q ≤ top f m := by
  intro m
  induction m with
  | zero => exact ⟨.inl rfl, by simp [top], fun q h => by omega⟩
  | succ m ih =>
    obtain ⟨i1, i2, i3⟩ := ih
    have hm := le_mx (top f m) (f m)
    simp only [top]
    refine ⟨?_, by omega, fun q h => ?_⟩
    · rcases mx_or (top f m) (f m) with a | a
      · rcases i1 with i1 | ⟨q, hq, i1⟩
        · exact .inl (a.trans i1)
        · exact .inr ⟨q, by omega, a.trans i1⟩
      · exact .inr ⟨m, by omega, a⟩
    · by_cases hq : q = m
      · subst hq; exact hm.2
      · have := i3 q (by omega); omega
theorem top_W (l : List Int) (hl : l.length ≤ 1000) (hx : ∀ x ∈ l, 0 ≤ x ∧ x ≤ 20) (p : Nat) : top (rowB oneB l) (p + 1) = W l p := by
  have hc := char_row l (fun q s => q = 0 ∧ s = 0) oneB 0 (by omega) (by omega) (fun x h => (hx x h).2) (fun q => by
    unfold oneB
    by_cases h : q = 0
    · subst h; simp
    · simp [h])
  obtain ⟨w1, w2, ⟨q', w3, w4⟩, w5⟩ := W_prop l hl hx p
  obtain ⟨t1, t2, t3⟩ := top_prop (rowB oneB l) (p + 1)
  have toR : ∀ q s, Ch l q s → Rel (fun q s => q = 0 ∧ s = 0) l q s := fun q s h => (rel_iff l _ q s).2 ⟨q, s, Nat.le_refl _, h, by omega, by omega⟩
  have ofR : ∀ q s, Rel (fun q s => q = 0 ∧ s = 0) l q s → Ch l q s := fun q s h => by
    obtain ⟨q1, s1, a, b, c, d⟩ := (rel_iff l _ q s).1 h
    rw [show q = q1 by omega, show s = s1 by omega]; exact b
  apply Int.le_antisymm
  · rcases t1 with t1 | ⟨q, hq, t1⟩
    · omega
    · have := (hc q).2.2.1 (by omega)
      have := w5 q _ (by omega) (ofR _ _ this)
      omega
  · have := ((hc q').2.2.2 _ (toR _ _ w4)).2
    have := t3 q' (by omega)
    omega
theorem fewerW_ev (p : Nat) (hp : p ≤ 1000) (l : List Int) (hL : l.length ≤ 1000) (hx : ∀ x ∈ l, 0 ≤ x ∧ x ≤ 20) : Ev (fun k => spec_soFewer.f k l ((p : Int) + 1)) (W l p) := by
  rw [← top_W l hL hx p]; exact fewer_ev p hp l hL (fun x h => (hx x h).2)

end Go.Proofs.Ytjldifjfgeifcaa.Pure
