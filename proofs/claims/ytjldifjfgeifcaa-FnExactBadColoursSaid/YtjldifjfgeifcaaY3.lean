/- Plain lemmas over the printed functions of this seat. -/
import Derived.Test.YtjldifjfgeifcaaY1
set_option linter.unusedVariables false
set_option linter.unusedSimpArgs false
namespace Go.Proofs.Ytjldifjfgeifcaa.Pure
open Go.RowKit Go.Proofs.Ytjldifjfgeifcaa.P Go.Proofs.YtjldifjfgeifcaaW.PrintWords Go.Proofs.YtjldifjfgeifcaaW.PrintLast Go.Proofs.YtjldifjfgeifcaaW.PrintMore

/-! ### 'from some number of rounds on' -/
def Ev {α : Type} (f : Nat → Option α) (r : α) : Prop := ∃ K, ∀ k, K ≤ k → f k = some r
theorem Ev.step {α : Type} {f g : Nat → Option α} {r : α} (e : Ev g r) (h : ∀ k, f (k + 1) = g k) : Ev f r := by
  obtain ⟨K, hK⟩ := e
  refine ⟨K + 1, fun k hk => ?_⟩
  obtain ⟨m, rfl⟩ : ∃ m, k = m + 1 := ⟨k - 1, by omega⟩
  rw [h]; exact hK m (by omega)
theorem Ev.stepFrom {α : Type} {f g : Nat → Option α} {r : α} (e : Ev g r) (K0 : Nat) (h : ∀ k, K0 ≤ k → f (k + 1) = g k) : Ev f r := by
  obtain ⟨K, hK⟩ := e
  refine ⟨K + K0 + 1, fun k hk => ?_⟩
  obtain ⟨m, rfl⟩ : ∃ m, k = m + 1 := ⟨k - 1, by omega⟩
  rw [h m (by omega)]; exact hK m (by omega)
theorem Ev.now {α : Type} {f : Nat → Option α} {r : α} (h : ∀ k, f (k + 1) = some r) : Ev f r := by
  refine ⟨1, fun k hk => ?_⟩
  obtain ⟨m, rfl⟩ : ∃ m, k = m + 1 := ⟨k - 1, by omega⟩
  exact h m

/-! ### can a choice go wrong? For each colour one hand gives: all its lefts, or all its rights -/
def bad : List Int → List Int → Int → Int → Bool
  | a :: l, b :: r, x, y => bad l r (x - a) y || bad l r x (y - b)
  | _, _, x, y => decide (x ≤ 0) && decide (y ≤ 0)
def run : List Int → List Int → Nat → Int → Int → Bool
  | a :: l, b :: r, s, x, y => if s % 2 = 1 then run l r (s / 2) (x - a) y else run l r (s / 2) x (y - b)
  | _, _, _, x, y => decide (x ≤ 0) && decide (y ≤ 0)
def orL : List Int → List Int → Int → Int → Bool
  | a :: l, b :: r, x, y => bad l r (x - a) y || orL l r x (y - b)
  | _, _, _, _ => false
theorem bad_nil (r : List Int) (x y : Int) : bad [] r x y = (decide (x ≤ 0) && decide (y ≤ 0)) := by unfold bad; rfl
theorem run_nil (r : List Int) (s : Nat) (x y : Int) : run [] r s x y = (decide (x ≤ 0) && decide (y ≤ 0)) := by unfold run; rfl
theorem orL_nil (r : List Int) (x y : Int) : orL [] r x y = false := by unfold orL; rfl
theorem bad_iff : ∀ (l r : List Int) (x y : Int), l.length = r.length → (bad l r x y = true ↔ ∃ s, s < 2 ^ l.length ∧ run l r s x y = true) := by
  intro l
  induction l with
  | nil => intro r x y h; rw [bad_nil]; exact ⟨fun h => ⟨0, by simp, by rw [run_nil]; exact h⟩, fun ⟨s, _, h⟩ => by rw [run_nil] at h; exact h⟩
  | cons a l ih =>
    intro r x y h
    cases r with
    | nil => simp at h
    | cons b r =>
      simp only [List.length_cons] at h
      simp only [bad, run, Bool.or_eq_true, ih r _ _ (by omega), List.length_cons, Nat.pow_succ]
      constructor
      · rintro (⟨s, h1, h2⟩ | ⟨s, h1, h2⟩)
        · exact ⟨2 * s + 1, by omega, by rw [if_pos (by omega), show (2 * s + 1) / 2 = s by omega]; exact h2⟩
        · exact ⟨2 * s, by omega, by rw [if_neg (by omega), show 2 * s / 2 = s by omega]; exact h2⟩
      · rintro ⟨s, h1, h2⟩
        by_cases hs : s % 2 = 1
        · rw [if_pos hs] at h2; exact .inl ⟨s / 2, by omega, h2⟩
        · rw [if_neg hs] at h2; exact .inr ⟨s / 2, by omega, h2⟩
theorem bad_or : ∀ (l r : List Int) (x y : Int), l.length = r.length → bad l r x y = ((decide (x ≤ 0) && decide (r.sum ≥ y)) || orL l r x y) := by
  intro l
  induction l with
  | nil =>
    intro r x y h
    have : r = [] := List.length_eq_zero_iff.1 (by simpa using h.symm)
    subst this
    rw [bad_nil, orL_nil]; simp
  | cons a l ih =>
    intro r x y h
    cases r with
    | nil => simp at h
    | cons b r =>
      simp only [List.length_cons] at h
      simp only [bad, orL, List.sum_cons]
      rw [ih r x (y - b) (by omega)]
      have e : decide (r.sum ≥ y - b) = decide (b + r.sum ≥ y) := by congr 1; apply propext; omega
      rw [e]
      cases bad l r (x - a) y <;> cases orL l r x (y - b) <;> simp
theorem bad_mono : ∀ (l r : List Int) (x y x' y' : Int), x' ≤ x → y' ≤ y → bad l r x y = true → bad l r x' y' = true := by
  intro l
  induction l with
  | nil => intro r x y x' y' h1 h2 h; rw [bad_nil] at *; simp at *; omega
  | cons a l ih =>
    intro r x y x' y' h1 h2 h
    cases r with
    | nil => simp [bad] at *; omega
    | cons b r =>
      simp only [bad, Bool.or_eq_true] at *
      rcases h with h | h
      · exact .inl (ih r _ _ _ _ (by omega) h2 h)
      · exact .inr (ih r _ _ _ _ h1 (by omega) h)
set_option maxRecDepth 100000 in
theorem bits_all : ((List.range 256).all fun s => (List.range 8).all fun i => decide (Go.bits .and .i64 (shr .i64 (s : Int) (i : Int)) 1 = ((s / 2 ^ i % 2 : Nat) : Int))) = true := by decide +kernel
theorem bit_eq (s i : Nat) (hs : s < 256) (hi : i < 8) : Go.bits .and .i64 (shr .i64 (s : Int) (i : Int)) 1 = ((s / 2 ^ i % 2 : Nat) : Int) :=
  of_decide_eq_true (List.all_eq_true.1 (List.all_eq_true.1 bits_all s (List.mem_range.2 hs)) i (List.mem_range.2 hi))
theorem shl_all : ((List.range 9).all fun i => decide (shl .i64 1 (i : Int) = ((2 ^ i : Nat) : Int))) = true := by decide +kernel
theorem shl_eq (i : Nat) (hi : i ≤ 8) : shl .i64 1 (i : Int) = ((2 ^ i : Nat) : Int) := of_decide_eq_true (List.all_eq_true.1 shl_all i (List.mem_range.2 (by omega)))
theorem two_le (n : Nat) (h : n ≤ 8) : 2 ^ n ≤ 256 := Nat.pow_le_pow_right (by omega) h
theorem wsub {x a : Int} (hx : -1000000 ≤ x ∧ x ≤ 1000000) (ha : -1000000 ≤ a ∧ a ≤ 1000000) : wrap64 (x - a) = x - a := wrap_small (by omega) (by omega)
theorem wadd {x a : Int} (hx : -1000000 ≤ x ∧ x ≤ 1000000) (ha : -1000000 ≤ a ∧ a ≤ 1000000) : wrap64 (x + a) = x + a := wrap_small (by omega) (by omega)
theorem isBad_l (l r : List Int) (h1 : l.length ≤ 8) (h2 : r.length = l.length) (hl : ∀ x ∈ l, 0 ≤ x ∧ x ≤ 20) (hr : ∀ x ∈ r, 0 ≤ x ∧ x ≤ 20) (s : Nat) (hs : s < 256) : ∀ (n i k : Nat) (x y : Int), l.length - i = n → i ≤ l.length → n < k → -1000 + 20 * ((n : Nat) : Int) ≤ x → x ≤ 1000 → -1000 + 20 * ((n : Nat) : Int) ≤ y → y ≤ 1000 →
    impl_Gloves_isBad.l0 k s x y l l.length i l r = some (run (l.drop i) (r.drop i) (s / 2 ^ i) x y) := by
  intro n
  induction n with
  | zero =>
    intro i k x y hd hi hk a1 a2 a3 a4
    obtain ⟨m, rfl⟩ : ∃ m, k = m + 1 := ⟨k - 1, by omega⟩
    obtain rfl : i = l.length := by omega
    simp only [impl_Gloves_isBad.l0]
    rw [if_neg (by omega), List.drop_length, run_nil]
    by_cases hx : x ≤ 0
    · rw [if_pos hx, decide_eq_true hx]; rfl
    · rw [if_neg hx, decide_eq_false hx]; rfl
  | succ n ih =>
    intro i k x y hd hi hk a1 a2 a3 a4
    obtain ⟨m, rfl⟩ : ∃ m, k = m + 1 := ⟨k - 1, by omega⟩
    have hlt : i < l.length := by omega
    have hlt2 : i < r.length := by omega
    have b1 := hl l[i] (List.getElem_mem hlt)
    have b2 := hr r[i] (List.getElem_mem hlt2)
    have d0 : (0 : Int) ≤ (i : Int) := by omega
    have d1 : (i : Int) < (l.length : Int) := by omega
    have d2 : (i : Int) < (r.length : Int) := by omega
    have bl : l.length ≤ 9223372036854775807 := by omega
    have ep : s / 2 ^ (i + 1) = s / 2 ^ i / 2 := by rw [Nat.pow_succ, Nat.div_div_eq_div_mul]
    have e1 := ih (i + 1) m (x - l[i]) y (by omega) (by omega) (by omega) (by omega) (by omega) (by omega) (by omega)
    have e2 := ih (i + 1) m x (y - r[i]) (by omega) (by omega) (by omega) (by omega) (by omega) (by omega) (by omega)
    have c1 := wsub (x := x) (a := l[i]) (by omega) (by omega)
    have c2 := wsub (x := y) (a := r[i]) (by omega) (by omega)
    rw [List.drop_eq_getElem_cons hlt, List.drop_eq_getElem_cons hlt2]
    simp only [impl_Gloves_isBad.l0, run]
    rw [if_pos d1, if_pos d0, if_pos d1, bit_eq s i hs (by omega), rd_at l i hlt, wrap_succ hlt bl]
    by_cases hb : s / 2 ^ i % 2 = 1
    · rw [if_pos (show ((s / 2 ^ i % 2 : Nat) : Int) = 1 by omega), if_pos hb, c1, e1, ep]
    · rw [if_neg (by omega), if_neg hb, if_pos d2, rd_at r i hlt2, c2, e2, ep]
theorem isSafe_l (l r : List Int) (h1 : l.length ≤ 8) (h2 : r.length = l.length) (hl : ∀ x ∈ l, 0 ≤ x ∧ x ≤ 20) (hr : ∀ x ∈ r, 0 ≤ x ∧ x ≤ 20) (x y : Int) (hx : 0 ≤ x ∧ x ≤ 1000) (hy : 0 ≤ y ∧ y ≤ 1000) : ∀ (d s : Nat), 2 ^ l.length - s = d → s ≤ 2 ^ l.length → (∀ s', s' < s → run l r s' x y = false) →
    Ev (fun k => impl_Gloves_isSafe.l0 k x y ((2 ^ l.length : Nat) : Int) s l r) (!bad l r x y) := by
  have h256 := two_le l.length h1
  intro d
  induction d with
  | zero =>
    intro s hd hs hall
    obtain rfl : s = 2 ^ l.length := by omega
    refine Ev.now (fun k => ?_)
    have hb : bad l r x y = false := by
      cases hb : bad l r x y with
      | false => rfl
      | true =>
        obtain ⟨s, h3, h4⟩ := (bad_iff l r x y h2.symm).1 hb
        rw [hall s h3] at h4; simp at h4
    simp only [impl_Gloves_isSafe.l0]
    rw [if_neg (by omega), hb]; rfl
  | succ d ih =>
    intro s hd hs hall
    have hlt : s < 2 ^ l.length := by omega
    have d1 : (s : Int) < ((2 ^ l.length : Nat) : Int) := by omega
    have hrun : ∀ k, 9 ≤ k → impl_Gloves_isBad.f k l r s x y = some (run l r s x y) := by
      intro k hk
      have := isBad_l l r h1 h2 hl hr s (by omega) l.length 0 k x y (by omega) (by omega) (by omega) (by omega) (by omega) (by omega) (by omega)
      simpa [impl_Gloves_isBad.f] using this
    cases hb : run l r s x y with
    | true =>
      have hbad : bad l r x y = true := (bad_iff l r x y h2.symm).2 ⟨s, hlt, hb⟩
      rw [hbad]
      refine ⟨10, fun k hk => ?_⟩
      obtain ⟨m, rfl⟩ : ∃ m, k = m + 1 := ⟨k - 1, by omega⟩
      simp only [impl_Gloves_isSafe.l0]
      rw [if_pos d1, hrun m (by omega), hb]; rfl
    | false =>
      have ih' := ih (s + 1) (by omega) (by omega) (fun s' h => by
        by_cases h3 : s' = s
        · rw [h3]; exact hb
        · exact hall s' (by omega))
      have es := wrap_succ hlt (show 2 ^ l.length ≤ 9223372036854775807 by omega)
      refine Ev.stepFrom ih' 9 (fun k hk => ?_)
      simp only [impl_Gloves_isSafe.l0]
      rw [if_pos d1, hrun k hk, hb, es]; rfl
theorem isSafe_ev (l r : List Int) (h1 : l.length ≤ 8) (h2 : r.length = l.length) (hl : ∀ x ∈ l, 0 ≤ x ∧ x ≤ 20) (hr : ∀ x ∈ r, 0 ≤ x ∧ x ≤ 20) (x y : Int) (hx : 0 ≤ x ∧ x ≤ 1000) (hy : 0 ≤ y ∧ y ≤ 1000) : Ev (fun k => impl_Gloves_isSafe.f k l r x y) (!bad l r x y) := by
  obtain ⟨K, hK⟩ := isSafe_l l r h1 h2 hl hr x y hx hy (2 ^ l.length) 0 rfl (Nat.zero_le _) (fun s h => absurd h (Nat.not_lt_zero s))
  refine ⟨K, fun k hk => ?_⟩
  simp only [impl_Gloves_isSafe.f]
  rw [shl_eq l.length h1]
  exact hK k hk
theorem sum_l (l r : List Int) (x1 x2 x3 : Int) (d : List Int) (hd : d.length ≤ 8) (hx : ∀ x ∈ d, 0 ≤ x ∧ x ≤ 20) (res : List Int × Bool) : ∀ (n i : Nat) (a : Int), d.length - i = n → i ≤ d.length → 0 ≤ a → a ≤ 20 * i →
    Ev (fun k => spec_gvBad.j1 k x1 x2 x3 (decide (x2 ≤ 0) && decide (a + (d.drop i).sum ≥ x3)) l r) res → Ev (fun k => spec_gvBad.l0 k x1 x2 x3 a d d.length i l r) res := by
  intro n
  induction n with
  | zero =>
    intro i a h1 h2 h3 h4 e
    obtain rfl : i = d.length := by omega
    rw [List.drop_length] at e
    simp only [List.sum_nil, Int.add_zero] at e
    refine Ev.step e (fun k => ?_)
    simp only [spec_gvBad.l0]
    rw [if_neg (by omega)]
    by_cases h : x2 ≤ 0
    · rw [if_pos h, decide_eq_true h]; rfl
    · rw [if_neg h, decide_eq_false h]; rfl
  | succ n ih =>
    intro i a h1 h2 h3 h4 e
    have hlt : i < d.length := by omega
    have b := hx d[i] (List.getElem_mem hlt)
    rw [List.drop_eq_getElem_cons hlt, List.sum_cons, ← Int.add_assoc] at e
    have ih' := ih (i + 1) (a + d[i]) (by omega) (by omega) (by omega) (by omega) e
    have d0 : (0 : Int) ≤ (i : Int) := by omega
    have d1 : (i : Int) < (d.length : Int) := by omega
    have bl : d.length ≤ 9223372036854775807 := by omega
    have c1 := wadd (x := a) (a := d[i]) (by omega) (by omega)
    refine Ev.step ih' (fun k => ?_)
    simp only [spec_gvBad.l0]
    rw [if_pos d1, if_pos d0, if_pos d1, rd_at d i hlt, c1, wrap_succ hlt bl]

end Go.Proofs.Ytjldifjfgeifcaa.Pure
