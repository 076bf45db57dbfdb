/- Plain lemmas over the printed functions of this seat. -/
import Derived.Test.YtjldifjfgeifcaaY3
set_option linter.unusedVariables false
set_option linter.unusedSimpArgs false
namespace Go.Proofs.Ytjldifjfgeifcaa.Pure
open Go.RowKit Go.Proofs.Ytjldifjfgeifcaa.P Go.Proofs.YtjldifjfgeifcaaW.PrintWords Go.Proofs.YtjldifjfgeifcaaW.PrintLast Go.Proofs.YtjldifjfgeifcaaW.PrintMore

/-! ### the least list of colours of the bad choices -/
def cols : Nat → Nat → Int → List Int
  | 0, _, _ => []
  | n + 1, s, i => if s % 2 = 1 then i :: cols n (s / 2) (i + 1) else cols n (s / 2) (i + 1)
def lcmp : List Int → List Int → Int
  | [], [] => 0
  | [], _ :: _ => -1
  | _ :: _, [] => 1
  | a :: l, b :: r => if a < b then -1 else if a > b then 1 else lcmp l r
theorem lcmp_nil (l : List Int) : lcmp [] l ≤ 0 := by cases l <;> simp [lcmp]
theorem lcmp_anti : ∀ l r : List Int, lcmp r l = - lcmp l r := by
  intro l
  induction l with
  | nil => intro r; cases r <;> simp [lcmp]
  | cons a l ih =>
    intro r
    cases r with
    | nil => simp [lcmp]
    | cons b r =>
      simp only [lcmp]
      by_cases h1 : a < b
      · rw [if_pos h1, if_neg (show ¬ b < a by omega), if_pos h1]; rfl
      · by_cases h2 : b < a
        · rw [if_pos h2, if_neg h1, if_pos (show a > b by omega)]
        · rw [if_neg h2, if_neg h1, if_neg (show ¬ a > b by omega), if_neg (show ¬ b > a by omega), ih r]
theorem lcmp_eq : ∀ l r : List Int, lcmp l r = 0 → l = r := by
  intro l
  induction l with
  | nil => intro r; cases r <;> simp [lcmp]
  | cons a l ih =>
    intro r h
    cases r with
    | nil => simp [lcmp] at h
    | cons b r =>
      simp only [lcmp] at h
      by_cases h1 : a < b
      · rw [if_pos h1] at h; omega
      · by_cases h2 : b < a
        · rw [if_neg h1, if_pos (show a > b by omega)] at h; omega
        · rw [if_neg h1, if_neg (show ¬ a > b by omega)] at h
          rw [ih r h, show a = b by omega]
theorem cols_ge : ∀ (n s : Nat) (i x : Int), x ∈ cols n s i → i ≤ x := by
  intro n
  induction n with
  | zero => intro s i x h; simp [cols] at h
  | succ n ih =>
    intro s i x h
    simp only [cols] at h
    split at h
    · rcases List.mem_cons.1 h with h | h
      · omega
      · have := ih _ _ _ h; omega
    · have := ih _ _ _ h; omega
theorem cols_zero : ∀ (n : Nat) (i : Int), cols n 0 i = [] := by
  intro n
  induction n with
  | zero => intro i; rfl
  | succ n ih => intro i; simp only [cols]; rw [if_neg (by omega)]; exact ih _
theorem cols_ext : ∀ (n m s : Nat) (i : Int), s < 2 ^ n → cols (n + m) s i = cols n s i := by
  intro n
  induction n with
  | zero =>
    intro m s i h
    obtain rfl : s = 0 := by simpa using h
    rw [cols_zero, cols_zero]
  | succ n ih =>
    intro m s i h
    rw [Nat.pow_succ] at h
    rw [show n + 1 + m = (n + m) + 1 by omega]
    simp only [cols]
    rw [ih m (s / 2) (i + 1) (by omega)]
theorem cols_len : ∀ (n s : Nat) (i : Int), (cols n s i).length ≤ n := by
  intro n
  induction n with
  | zero => intro s i; simp [cols]
  | succ n ih =>
    intro s i
    simp only [cols]
    have := ih (s / 2) (i + 1)
    split
    · simp only [List.length_cons]; omega
    · omega
theorem cols_run : ∀ (l r : List Int) (s : Nat) (i x y : Int), l.length = r.length → cols l.length s i = [] → run l r s x y = (decide (x ≤ 0) && decide (r.sum ≥ y)) := by
  intro l
  induction l with
  | nil =>
    intro r s i x y h _
    have : r = [] := List.length_eq_zero_iff.1 (by simpa using h.symm)
    subst this
    rw [run_nil]; simp
  | cons a l ih =>
    intro r s i x y h h2
    cases r with
    | nil => simp at h
    | cons b r =>
      simp only [List.length_cons] at h h2
      simp only [cols] at h2
      split at h2
      · simp at h2
      · rename_i hs
        simp only [run, List.sum_cons]
        rw [if_neg hs, ih r (s / 2) (i + 1) x (y - b) (by omega) h2]
        congr 2
        apply propext; omega
def dL : List Int → List Int → Int → Int → Int → Option (List Int)
  | a :: l, b :: r, i, x, y => match (if x - a ≤ 0 ∧ r.sum ≥ y then some [] else dL l r (i + 1) (x - a) y) with
      | some m => some (i :: m)
      | none => dL l r (i + 1) x (y - b)
  | _, _, _, _, _ => none
def dB (l r : List Int) (i x y : Int) : Option (List Int) := if x ≤ 0 ∧ r.sum ≥ y then some [] else dL l r i x y
theorem dL_nil (r : List Int) (i x y : Int) : dL [] r i x y = none := by unfold dL; rfl
theorem dL_some {a b : Int} {l r m : List Int} {i x y : Int} (h : dB l r (i + 1) (x - a) y = some m) : dL (a :: l) (b :: r) i x y = some (i :: m) := by
  unfold dB at h
  simp only [dL]
  rw [h]
theorem dL_none {a b : Int} {l r : List Int} {i x y : Int} (h : dB l r (i + 1) (x - a) y = none) : dL (a :: l) (b :: r) i x y = dL l r (i + 1) x (y - b) := by
  unfold dB at h
  simp only [dL]
  rw [h]
theorem dL_len : ∀ (l r : List Int) (i x y : Int) (m : List Int), dL l r i x y = some m → m.length ≤ l.length := by
  intro l
  induction l with
  | nil => intro r i x y m h; rw [dL_nil] at h; simp at h
  | cons a l ih =>
    intro r i x y m h
    cases r with
    | nil => simp [dL] at h
    | cons b r =>
      cases hq : dB l r (i + 1) (x - a) y with
      | some q =>
        rw [dL_some hq] at h
        obtain rfl := Option.some.inj h
        simp only [List.length_cons]
        unfold dB at hq
        split at hq
        · obtain rfl := Option.some.inj hq; simp
        · have := ih _ _ _ _ _ hq; omega
      | none =>
        rw [dL_none hq] at h
        have := ih _ _ _ _ _ h
        simp only [List.length_cons]; omega
theorem dB_len (l r : List Int) (i x y : Int) (m : List Int) (h : dB l r i x y = some m) : m.length ≤ l.length := by
  unfold dB at h
  split at h
  · obtain rfl := Option.some.inj h; simp
  · exact dL_len _ _ _ _ _ _ h
def Least (l r : List Int) (i x y : Int) : Option (List Int) → Prop
  | some m => (∃ s, s < 2 ^ l.length ∧ run l r s x y = true ∧ m = cols l.length s i) ∧ ∀ t, t < 2 ^ l.length → run l r t x y = true → lcmp m (cols l.length t i) ≤ 0
  | none => ∀ t, t < 2 ^ l.length → run l r t x y = false
theorem run_zero : ∀ (l r : List Int) (x y : Int), l.length = r.length → run l r 0 x y = (decide (x ≤ 0) && decide (r.sum ≥ y)) :=
  fun l r x y h => cols_run l r 0 0 x y h (cols_zero _ _)
theorem dB_of (l r : List Int) (i x y : Int) (h : l.length = r.length) (hd : ¬ (x ≤ 0 ∧ r.sum ≥ y) → Least l r i x y (dL l r i x y)) : Least l r i x y (dB l r i x y) := by
  unfold dB
  by_cases hc : x ≤ 0 ∧ r.sum ≥ y
  · rw [if_pos hc]
    refine ⟨⟨0, Nat.two_pow_pos _, ?_, (cols_zero _ _).symm⟩, fun t _ _ => lcmp_nil _⟩
    rw [run_zero l r x y h, decide_eq_true hc.1, decide_eq_true hc.2]; rfl
  · rw [if_neg hc]; exact hd hc
theorem dL_least : ∀ (l r : List Int) (i x y : Int), l.length = r.length → ¬ (x ≤ 0 ∧ r.sum ≥ y) → Least l r i x y (dL l r i x y) := by
  intro l
  induction l with
  | nil =>
    intro r i x y h hn
    have : r = [] := List.length_eq_zero_iff.1 (by simpa using h.symm)
    subst this
    rw [dL_nil]
    intro t _
    rw [run_nil]
    simp only [List.sum_nil] at hn
    cases h1 : decide (x ≤ 0) with
    | false => rfl
    | true =>
      have := of_decide_eq_true h1
      rw [decide_eq_false (by omega)]; rfl
  | cons a l ih =>
    intro r i x y h hn
    cases r with
    | nil => simp at h
    | cons b r =>
      simp only [List.length_cons] at h
      simp only [List.sum_cons] at hn
      have hl : l.length = r.length := by omega
      have hB := dB_of l r (i + 1) (x - a) y hl (ih r (i + 1) (x - a) y hl)
      have hL := ih r (i + 1) x (y - b) hl (by omega)
      cases hq : dB l r (i + 1) (x - a) y with
      | some m =>
        rw [dL_some hq]
        rw [hq] at hB
        obtain ⟨⟨s, h1, h2, h3⟩, h4⟩ := hB
        refine ⟨⟨2 * s + 1, ?_, ?_, ?_⟩, ?_⟩
        · rw [List.length_cons, Nat.pow_succ]; omega
        · simp only [run]; rw [if_pos (by omega), show (2 * s + 1) / 2 = s by omega]; exact h2
        · rw [List.length_cons]; simp only [cols]; rw [if_pos (by omega), show (2 * s + 1) / 2 = s by omega, h3]
        · intro t h5 h6
          rw [List.length_cons, Nat.pow_succ] at h5
          rw [List.length_cons]
          simp only [cols]
          simp only [run] at h6
          by_cases hs : t % 2 = 1
          · rw [if_pos hs] at h6 ⊢
            simp only [lcmp]
            rw [if_neg (by omega), if_neg (by omega)]
            exact h4 (t / 2) (by omega) h6
          · rw [if_neg hs] at h6 ⊢
            cases hc : cols l.length (t / 2) (i + 1) with
            | nil =>
              rw [cols_run l r (t / 2) (i + 1) x (y - b) hl hc] at h6
              simp only [Bool.and_eq_true, decide_eq_true_eq] at h6
              omega
            | cons c cs =>
              have := cols_ge l.length (t / 2) (i + 1) c (by rw [hc]; exact List.mem_cons_self)
              simp only [lcmp]
              rw [if_pos (by omega)]
              omega
      | none =>
        rw [dL_none hq]
        rw [hq] at hB
        have hB' : ∀ t, t < 2 ^ l.length → run l r t (x - a) y = false := hB
        cases hd : dL l r (i + 1) x (y - b) with
        | some m =>
          rw [hd] at hL
          obtain ⟨⟨s, h1, h2, h3⟩, h4⟩ := hL
          refine ⟨⟨2 * s, ?_, ?_, ?_⟩, ?_⟩
          · rw [List.length_cons, Nat.pow_succ]; omega
          · simp only [run]; rw [if_neg (by omega), show 2 * s / 2 = s by omega]; exact h2
          · rw [List.length_cons]; simp only [cols]; rw [if_neg (by omega), show 2 * s / 2 = s by omega, h3]
          · intro t h5 h6
            rw [List.length_cons, Nat.pow_succ] at h5
            rw [List.length_cons]
            simp only [cols]
            simp only [run] at h6
            by_cases hs : t % 2 = 1
            · rw [if_pos hs, hB' (t / 2) (by omega)] at h6; simp at h6
            · rw [if_neg hs] at h6 ⊢
              exact h4 (t / 2) (by omega) h6
        | none =>
          rw [hd] at hL
          have hL' : ∀ t, t < 2 ^ l.length → run l r t x (y - b) = false := hL
          intro t h5
          rw [List.length_cons, Nat.pow_succ] at h5
          simp only [run]
          split
          · exact hB' (t / 2) (by omega)
          · exact hL' (t / 2) (by omega)
theorem dB_least (l r : List Int) (i x y : Int) (h : l.length = r.length) : Least l r i x y (dB l r i x y) := dB_of l r i x y h (dL_least l r i x y h)
/-! ### the reference's search -/
def outD : Option (List Int) → List Int × Bool
  | some m => (m, true)
  | none => ([], false)
theorem gvBadM_ev (l r : List Int) (h1 : l.length ≤ 8) (h2 : r.length = l.length) (hl : ∀ x ∈ l, 0 ≤ x ∧ x ≤ 20) (hr : ∀ x ∈ r, 0 ≤ x ∧ x ≤ 20) : ∀ (n i : Nat) (x y : Int), l.length - i = n → i ≤ l.length → -1000 + 20 * (n : Int) ≤ x → x ≤ 1000 → -1000 + 20 * (n : Int) ≤ y → y ≤ 1000 →
    Ev (fun k => spec_gvBad.f k l r i x y) (outD (dB (l.drop i) (r.drop i) i x y)) := by
  intro n
  induction n using Nat.strongRecOn with
  | _ n ih =>
    intro i x y hd hi a1 a2 a3 a4
    have loop : ∀ (m c : Nat) (own : Int), l.length - c = m → c ≤ l.length → i ≤ c → 0 ≤ own → own ≤ 20 * ((c - i : Nat) : Int) → Ev (fun k => spec_gvBad.l1 k x y own c l r) (outD (dL (l.drop c) (r.drop c) c x (y - own))) := by
      intro m
      induction m with
      | zero =>
        intro c own e1 e2 e3 e4 e5
        obtain rfl : c = l.length := by omega
        refine Ev.now (fun k => ?_)
        simp only [spec_gvBad.l1]
        rw [if_neg (by omega), List.drop_length, dL_nil]
        rfl
      | succ m ihm =>
        intro c own e1 e2 e3 e4 e5
        have hlt : c < l.length := by omega
        have hlt2 : c < r.length := by omega
        have b1 := hl l[c] (List.getElem_mem hlt)
        have b2 := hr r[c] (List.getElem_mem hlt2)
        have d0 : (0 : Int) ≤ (c : Int) := by omega
        have d1 : (c : Int) < (l.length : Int) := by omega
        have d2 : (c : Int) < (r.length : Int) := by omega
        have bl : l.length ≤ 9223372036854775807 := by omega
        obtain ⟨K, hK⟩ := ih (l.length - (c + 1)) (by omega) (c + 1) (x - l[c]) (y - own) rfl (by omega) (by omega) (by omega) (by omega) (by omega)
        have c1 := wsub (x := x) (a := l[c]) (by omega) (by omega)
        have c2 := wsub (x := y) (a := own) (by omega) (by omega)
        have c3 := wadd (x := own) (a := r[c]) (by omega) (by omega)
        rw [List.drop_eq_getElem_cons hlt, List.drop_eq_getElem_cons hlt2]
        have ec : ((c + 1 : Nat) : Int) = (c : Int) + 1 := by omega
        rw [ec] at hK
        cases hb : dB (l.drop (c + 1)) (r.drop (c + 1)) ((c : Int) + 1) (x - l[c]) (y - own) with
        | some q =>
          have hq := dB_len _ _ _ _ _ _ hb
          rw [List.length_drop] at hq
          have hlen : ([(c : Int)] : List Int).length + q.length < 17592186044416 := by simp; omega
          rw [dL_some hb]
          refine ⟨K + 1, fun k hk => ?_⟩
          obtain ⟨m', rfl⟩ : ∃ m', k = m' + 1 := ⟨k - 1, by omega⟩
          have hK := hK m' (by omega)
          simp only [hb, outD] at hK
          simp only [spec_gvBad.l1]
          rw [if_pos d1, if_pos d0, rd_at l c hlt, wrap_succ hlt bl, c1, c2, ec, hK, Option.bind_some, if_pos rfl, Option.bind_some, if_pos hlen]
          rfl
        | none =>
          rw [dL_none hb]
          have e := ihm (c + 1) (own + r[c]) (by omega) (by omega) (by omega) (by omega) (by omega)
          rw [show y - (own + r[c]) = y - own - r[c] by omega] at e
          rw [ec] at e
          refine Ev.stepFrom e K (fun k hk => ?_)
          have hK := hK k hk
          simp only [hb, outD] at hK
          simp only [spec_gvBad.l1]
          rw [if_pos d1, if_pos d0, rd_at l c hlt, wrap_succ hlt bl, c1, c2, ec, hK, Option.bind_some, if_neg Bool.false_ne_true, if_pos d2, rd_at r c hlt2, c3]
    have e := loop n i 0 hd hi (by omega) (by omega) (by omega)
    rw [Int.sub_zero] at e
    have d0 : (0 : Int) ≤ (i : Int) := by omega
    have d1 : (i : Int) ≤ (r.length : Int) := by omega
    have hds : ∀ x ∈ r.drop i, 0 ≤ x ∧ x ≤ 20 := fun x h => hr x (List.mem_of_mem_drop h)
    have hdl : (r.drop i).length ≤ 8 := by rw [List.length_drop]; omega
    have h := sum_l l r i x y (r.drop i) hdl hds (outD (dB (l.drop i) (r.drop i) i x y)) (r.drop i).length 0 0 (by omega) (by omega) (by omega) (by omega) (by
      rw [List.drop_zero, Int.zero_add]
      unfold dB
      by_cases hc : x ≤ 0 ∧ (r.drop i).sum ≥ y
      · rw [if_pos hc, decide_eq_true hc.1, decide_eq_true hc.2]
        refine Ev.now (fun k => ?_)
        simp only [spec_gvBad.j1]
        rfl
      · rw [if_neg hc]
        have hf : (decide (x ≤ 0) && decide ((r.drop i).sum ≥ y)) = false := by
          cases h1 : decide (x ≤ 0) with
          | false => rfl
          | true =>
            have := of_decide_eq_true h1
            rw [decide_eq_false (by omega)]; rfl
        rw [hf]
        refine Ev.step e (fun k => ?_)
        simp only [spec_gvBad.j1]
        rfl)
    refine Ev.step h (fun k => ?_)
    simp only [spec_gvBad.f]
    rw [if_pos d0, if_pos d1, Int.toNat_natCast]
    rfl
/-! ### the program's lists and their least -/
theorem colours_l (s : Nat) (hs : s < 256) : ∀ (d i k : Nat) (acc : List Int), 8 - i = d → i ≤ 8 → acc.length ≤ i → d < k → impl_colours.l0 k s acc i = some (acc ++ cols d (s / 2 ^ i) i) := by
  intro d
  induction d with
  | zero =>
    intro i k acc h1 h2 h3 h4
    obtain ⟨m, rfl⟩ : ∃ m, k = m + 1 := ⟨k - 1, by omega⟩
    obtain rfl : i = 8 := by omega
    simp only [impl_colours.l0, cols]
    rw [if_neg (by omega), List.append_nil]
  | succ d ih =>
    intro i k acc h1 h2 h3 h4
    obtain ⟨m, rfl⟩ : ∃ m, k = m + 1 := ⟨k - 1, by omega⟩
    have d0 : (0 : Int) ≤ (i : Int) := by omega
    have d1 : (i : Int) < 8 := by omega
    have dl : acc.length < 17592186044416 := by omega
    have ew : wrap64 ((i : Int) + 1) = ((i + 1 : Nat) : Int) := wrap_succ (n := 8) (by omega) (by omega)
    have ep : s / 2 ^ (i + 1) = s / 2 ^ i / 2 := by rw [Nat.pow_succ, Nat.div_div_eq_div_mul]
    have ec : ((i + 1 : Nat) : Int) = (i : Int) + 1 := by omega
    simp only [impl_colours.l0, cols]
    rw [if_pos d1, if_pos d0, bit_eq s i hs (by omega)]
    by_cases hb : s / 2 ^ i % 2 = 1
    · have e1 := ih (i + 1) m (acc ++ [(i : Int)]) (by omega) (by omega) (by rw [List.length_append]; simp; omega) (by omega)
      rw [if_pos (show ((s / 2 ^ i % 2 : Nat) : Int) = 1 by omega), if_pos hb, if_pos dl, ew, e1, ep, ec, List.append_assoc]
      rfl
    · have e1 := ih (i + 1) m acc (by omega) (by omega) (by omega) (by omega)
      rw [if_neg (by omega), if_neg hb, ew, e1, ep, ec]
theorem colours_eq (s k : Nat) (hs : s < 256) (hk : 9 ≤ k) : impl_colours.f k s = some (cols 8 s 0) := by
  have h := colours_l s hs 8 0 k [] rfl (by omega) (by simp) (by omega)
  simp only [impl_colours.f]
  simpa using h
theorem cmp_eq (a b : Int) : cmp_Compare_int.f a b = some (if a < b then -1 else if a > b then 1 else 0) := by
  simp only [cmp_Compare_int.f, cmp_isNaN_int.f, bne_self_eq_false, Option.bind_some, Bool.false_eq_true, if_false]
  split
  · rfl
  · split <;> rfl
theorem Compare_l (x y : List Int) (hx : x.length ≤ 8) (hy : y.length ≤ 8) : ∀ (d i k : Nat), x.length - i = d → i ≤ x.length → i ≤ y.length → d < k → slices_Compare_int_int.l0 k x y x x.length i = some (lcmp (x.drop i) (y.drop i)) := by
  intro d
  induction d with
  | zero =>
    intro i k h1 h2 h3 h4
    obtain ⟨m, rfl⟩ : ∃ m, k = m + 1 := ⟨k - 1, by omega⟩
    obtain rfl : i = x.length := by omega
    simp only [slices_Compare_int_int.l0]
    rw [if_neg (by omega), List.drop_length]
    by_cases hc : (x.length : Int) < (y.length : Int)
    · rw [if_pos hc, List.drop_eq_getElem_cons (show x.length < y.length by omega)]; rfl
    · rw [if_neg hc, List.drop_eq_nil_of_le (by omega)]; rfl
  | succ d ih =>
    intro i k h1 h2 h3 h4
    obtain ⟨m, rfl⟩ : ∃ m, k = m + 1 := ⟨k - 1, by omega⟩
    have hlt : i < x.length := by omega
    have d0 : (0 : Int) ≤ (i : Int) := by omega
    have d1 : (i : Int) < (x.length : Int) := by omega
    simp only [slices_Compare_int_int.l0]
    rw [if_pos d1, if_pos d0, if_pos d1, List.drop_eq_getElem_cons hlt]
    by_cases hy2 : i < y.length
    · have d2 : (i : Int) < (y.length : Int) := by omega
      rw [if_neg (by omega), if_pos d2, cmp_eq, rd_at x i hlt, rd_at y i hy2, Option.bind_some, List.drop_eq_getElem_cons hy2]
      simp only [lcmp]
      by_cases hc : x[i] < y[i]
      · rw [if_pos hc, if_pos hc, if_neg (by omega)]
      · by_cases hc2 : x[i] > y[i]
        · rw [if_neg hc, if_neg hc, if_pos hc2, if_pos hc2, if_neg (by omega)]
        · have e1 := ih (i + 1) m (by omega) (by omega) (by omega) (by omega)
          rw [if_neg hc, if_neg hc, if_neg hc2, if_neg hc2, if_pos rfl, wrap_succ hlt (by omega), e1]
    · have d2 : (i : Int) ≥ (y.length : Int) := by omega
      rw [if_pos d2, List.drop_eq_nil_of_le (show y.length ≤ i by omega)]; rfl
theorem Compare_eq (x y : List Int) (k : Nat) (hx : x.length ≤ 8) (hy : y.length ≤ 8) (hk : 9 ≤ k) : slices_Compare_int_int.f k x y = some (lcmp x y) := by
  have h := Compare_l x y hx hy x.length 0 k (by omega) (by omega) (by omega) (by omega)
  simp only [slices_Compare_int_int.f]
  simpa using h
theorem rdL_at (L : List (List Int)) (i : Nat) (h : i < L.length) : rd_L1 L (i : Int) = L[i] := by
  simp [rd_L1, List.getD_eq_getElem?_getD, h]
theorem Min_l (L : List (List Int)) (m : List Int) (hL : L.length ≤ 256) (h8 : ∀ x ∈ L, x.length ≤ 8) (hmin : ∀ x ∈ L, lcmp m x ≤ 0) (hm8 : m.length ≤ 8) : ∀ (d i k : Nat) (c : List Int), L.length - i = d → i ≤ L.length → d + 9 < k → c ∈ L → (c = m ∨ m ∈ L.drop i) → slices_MinFunc_int_int_of_slices_Compare_int_int.l0 k L c i = some m := by
  intro d
  induction d with
  | zero =>
    intro i k c h1 h2 h3 h4 h5
    obtain ⟨n, rfl⟩ : ∃ n, k = n + 1 := ⟨k - 1, by omega⟩
    obtain rfl : i = L.length := by omega
    simp only [slices_MinFunc_int_int_of_slices_Compare_int_int.l0]
    rw [if_neg (by omega)]
    rcases h5 with h5 | h5
    · rw [h5]
    · rw [List.drop_length] at h5; simp at h5
  | succ d ih =>
    intro i k c h1 h2 h3 h4 h5
    obtain ⟨n, rfl⟩ : ∃ n, k = n + 1 := ⟨k - 1, by omega⟩
    have hlt : i < L.length := by omega
    have d0 : (0 : Int) ≤ (i : Int) := by omega
    have d1 : (i : Int) < (L.length : Int) := by omega
    simp only [slices_MinFunc_int_int_of_slices_Compare_int_int.l0]
    rw [if_pos d1, if_pos d0, rdL_at L i hlt, Compare_eq _ _ n (h8 _ (List.getElem_mem hlt)) (h8 _ h4) (by omega), Option.bind_some, wrap_succ hlt (by omega)]
    rw [List.drop_eq_getElem_cons hlt] at h5
    have hcm := hmin c h4
    have him := hmin L[i] (List.getElem_mem hlt)
    by_cases hc : lcmp L[i] c < 0
    · rw [if_pos hc]
      refine ih (i + 1) n L[i] (by omega) (by omega) (by omega) (List.getElem_mem hlt) ?_
      rcases h5 with h5 | h5
      · subst h5
        have := lcmp_anti c L[i]
        omega
      · rcases List.mem_cons.1 h5 with h5 | h5
        · exact .inl h5.symm
        · exact .inr h5
    · rw [if_neg hc]
      refine ih (i + 1) n c (by omega) (by omega) (by omega) h4 ?_
      rcases h5 with h5 | h5
      · exact .inl h5
      · rcases List.mem_cons.1 h5 with h5 | h5
        · rw [h5] at hcm
          exact .inl (by rw [h5]; exact (lcmp_eq _ _ (by omega)).symm)
        · exact .inr h5
theorem Min_eq (L : List (List Int)) (m : List Int) (hL : L.length ≤ 256) (h8 : ∀ x ∈ L, x.length ≤ 8) (hm : m ∈ L) (hmin : ∀ x ∈ L, lcmp m x ≤ 0) (k : Nat) (hk : 300 ≤ k) : slices_MinFunc_int_int_of_slices_Compare_int_int.f k L = some m := by
  have hpos : 0 < L.length := List.length_pos_of_mem hm
  simp only [slices_MinFunc_int_int_of_slices_Compare_int_int.f]
  rw [if_neg (by omega), if_pos (by omega)]
  have e0 : rd_L1 L 0 = L[0] := rdL_at L 0 hpos
  rw [e0]
  refine Min_l L m hL h8 hmin (h8 _ hm) (L.length - 1) 1 k L[0] rfl (by omega) (by omega) (List.getElem_mem hpos) ?_
  have h := hm
  rw [show L = L.drop 0 from rfl, List.drop_eq_getElem_cons hpos] at h
  rcases List.mem_cons.1 h with h | h
  · exact .inl h.symm
  · exact .inr h
def blst (l r : List Int) (x y : Int) : Nat → Nat → List (List Int)
  | 0, _ => []
  | d + 1, s => if run l r s x y = true then cols 8 s 0 :: blst l r x y d (s + 1) else blst l r x y d (s + 1)
theorem blst_len (l r : List Int) (x y : Int) : ∀ d s, (blst l r x y d s).length ≤ d := by
  intro d
  induction d with
  | zero => intro s; simp [blst]
  | succ d ih =>
    intro s
    simp only [blst]
    have := ih (s + 1)
    split
    · simp only [List.length_cons]; omega
    · omega
theorem blst_mem (l r : List Int) (x y : Int) : ∀ (d s : Nat) (m : List Int), m ∈ blst l r x y d s ↔ ∃ t, s ≤ t ∧ t < s + d ∧ run l r t x y = true ∧ m = cols 8 t 0 := by
  intro d
  induction d with
  | zero => intro s m; simp only [blst]; exact ⟨fun h => absurd h (by simp), fun ⟨t, h1, h2, _⟩ => by omega⟩
  | succ d ih =>
    intro s m
    have hi := ih (s + 1) m
    simp only [blst]
    by_cases hr : run l r s x y = true
    · rw [if_pos hr, List.mem_cons, hi]
      constructor
      · rintro (h | ⟨t, h1, h2, h3⟩)
        · exact ⟨s, by omega, by omega, hr, h⟩
        · exact ⟨t, by omega, by omega, h3⟩
      · rintro ⟨t, h1, h2, h3, h4⟩
        by_cases ht : t = s
        · subst ht; exact .inl h4
        · exact .inr ⟨t, by omega, by omega, h3, h4⟩
    · rw [if_neg hr, hi]
      constructor
      · rintro ⟨t, h1, h2, h3⟩; exact ⟨t, by omega, by omega, h3⟩
      · rintro ⟨t, h1, h2, h3, h4⟩
        by_cases ht : t = s
        · subst ht; exact absurd h3 hr
        · exact ⟨t, by omega, by omega, h3, h4⟩
theorem BadL_l (l r : List Int) (h1 : l.length ≤ 8) (h2 : r.length = l.length) (hl : ∀ x ∈ l, 0 ≤ x ∧ x ≤ 20) (hr : ∀ x ∈ r, 0 ≤ x ∧ x ≤ 20) (x y : Int) (hx : 0 ≤ x ∧ x ≤ 1000) (hy : 0 ≤ y ∧ y ≤ 1000) (m : List Int) : ∀ (d s : Nat) (acc : List (List Int)), 2 ^ l.length - s = d → s ≤ 2 ^ l.length → acc.length ≤ s → Ev (fun k => slices_MinFunc_int_int_of_slices_Compare_int_int.f k (acc ++ blst l r x y d s)) m →
    Ev (fun k => impl_BadColours.l0 k x y acc ((2 ^ l.length : Nat) : Int) s l r) (m, true) := by
  have h256 := two_le l.length h1
  intro d
  induction d with
  | zero =>
    intro s acc e1 e2 e3 e4
    obtain rfl : s = 2 ^ l.length := by omega
    obtain ⟨K, hK⟩ := e4
    refine ⟨K + 1, fun k hk => ?_⟩
    obtain ⟨n, rfl⟩ : ∃ n, k = n + 1 := ⟨k - 1, by omega⟩
    have hK := hK n (by omega)
    simp only [blst, List.append_nil] at hK
    simp only [impl_BadColours.l0]
    rw [if_neg (by omega), hK]; rfl
  | succ d ih =>
    intro s acc e1 e2 e3 e4
    have hlt : s < 2 ^ l.length := by omega
    have d1 : (s : Int) < ((2 ^ l.length : Nat) : Int) := by omega
    have dl : acc.length < 5864062014805 := by omega
    have hrun : ∀ k, 9 ≤ k → impl_Gloves_isBad.f k l r s x y = some (run l r s x y) := by
      intro k hk
      have := isBad_l l r h1 h2 hl hr s (by omega) l.length 0 k x y (by omega) (by omega) (by omega) (by omega) (by omega) (by omega) (by omega)
      simpa [impl_Gloves_isBad.f] using this
    have es := wrap_succ hlt (show 2 ^ l.length ≤ 9223372036854775807 by omega)
    simp only [blst] at e4
    by_cases hb : run l r s x y = true
    · rw [if_pos hb] at e4
      have e := ih (s + 1) (acc ++ [cols 8 s 0]) (by omega) (by omega) (by rw [List.length_append]; simp; omega) (by rw [List.append_assoc]; exact e4)
      refine Ev.stepFrom e 9 (fun k hk => ?_)
      simp only [impl_BadColours.l0]
      rw [if_pos d1, hrun k hk, hb, Option.bind_some, if_pos rfl, colours_eq s k (by omega) hk, Option.bind_some, if_pos dl, es]
    · rw [if_neg hb] at e4
      have e := ih (s + 1) acc (by omega) (by omega) (by omega) e4
      refine Ev.stepFrom e 9 (fun k hk => ?_)
      simp only [impl_BadColours.l0]
      rw [if_pos d1, hrun k hk, Option.bind_some, if_neg hb, es]
theorem Bad_core (l r : List Int) (h1 : l.length ≤ 8) (h2 : r.length = l.length) (hl : ∀ x ∈ l, 0 ≤ x ∧ x ≤ 20) (hr : ∀ x ∈ r, 0 ≤ x ∧ x ≤ 20) (x y : Int) (hx : 0 ≤ x ∧ x ≤ 1000) (hy : 0 ≤ y ∧ y ≤ 1000) :
    (dB l r 0 x y).getD [] = (outD (dB l r 0 x y)).1 ∧ (outD (dB l r 0 x y)).1.length ≤ 8 ∧ Ev (fun k => impl_BadColours.j0 k x y (!bad l r x y) l r) (outD (dB l r 0 x y)) := by
  have hL := dB_least l r 0 x y h2.symm
  have h256 := two_le l.length h1
  cases hd : dB l r 0 x y with
  | none =>
    rw [hd] at hL
    have hL' : ∀ t, t < 2 ^ l.length → run l r t x y = false := hL
    have hb : bad l r x y = false := by
      cases hb : bad l r x y with
      | false => rfl
      | true =>
        obtain ⟨s, h3, h4⟩ := (bad_iff l r x y h2.symm).1 hb
        rw [hL' s h3] at h4; simp at h4
    refine ⟨rfl, by simp [outD], Ev.now (fun k => ?_)⟩
    rw [hb]
    simp only [impl_BadColours.j0]
    rfl
  | some m =>
    have hlen := dB_len _ _ _ _ _ _ hd
    rw [hd] at hL
    obtain ⟨⟨s, h3, h4, h5⟩, h6⟩ := hL
    have hb : bad l r x y = true := (bad_iff l r x y h2.symm).2 ⟨s, h3, h4⟩
    have hx8 : ∀ t, t < 2 ^ l.length → cols 8 t 0 = cols l.length t 0 := by
      intro t ht
      have := cols_ext l.length (8 - l.length) t 0 ht
      rwa [show l.length + (8 - l.length) = 8 by omega] at this
    refine ⟨rfl, by simp only [outD]; omega, ?_⟩
    rw [hb]
    have hmin : Ev (fun k => slices_MinFunc_int_int_of_slices_Compare_int_int.f k ([] ++ blst l r x y (2 ^ l.length) 0)) m := by
      refine ⟨300, fun k hk => ?_⟩
      rw [List.nil_append]
      refine Min_eq _ m ?_ ?_ ?_ ?_ k hk
      · have := blst_len l r x y (2 ^ l.length) 0; omega
      · intro q hq
        obtain ⟨t, _, _, _, rfl⟩ := (blst_mem l r x y _ _ _).1 hq
        exact cols_len 8 t 0
      · exact (blst_mem l r x y _ _ _).2 ⟨s, by omega, by omega, h4, by rw [hx8 s h3]; exact h5⟩
      · intro q hq
        obtain ⟨t, _, ht, hrt, rfl⟩ := (blst_mem l r x y _ _ _).1 hq
        rw [hx8 t (by omega)]
        exact h6 t (by omega) hrt
    have e := BadL_l l r h1 h2 hl hr x y hx hy m (2 ^ l.length) 0 [] (by omega) (by omega) (by simp) hmin
    refine Ev.step e (fun k => ?_)
    simp only [impl_BadColours.j0]
    rw [shl_eq l.length h1]
    rfl
theorem BadColours_ev (l r : List Int) (a b : Int) (hl : l.length ≤ 1048576) (hr : r.length ≤ 1048576) : ∃ (v : List Int × Bool) (K : Nat), v.1.length ≤ 1048576 ∧ ∀ k, K ≤ k → spec_BadColours.f k l r a b = some v ∧ impl_BadColours.f k l r a b = some v := by
  obtain ⟨K1, h1⟩ := gvGood_ev l r (by omega) (by omega)
  obtain ⟨K2, h2⟩ := AreGloves_ev l r (by omega) (by omega)
  obtain ⟨K5, h5⟩ := soSum_ev l (by omega)
  obtain ⟨K6, h6⟩ := soSum_ev r (by omega)
  obtain ⟨K7, h7⟩ := total_ev l (by omega)
  obtain ⟨K8, h8⟩ := total_ev r (by omega)
  by_cases hc : gloveB l r = true ∧ (decide (0 ≤ a) && decide (a ≤ wsum 0 l)) = true ∧ (decide (0 ≤ b) && decide (b ≤ wsum 0 r)) = true
  · obtain ⟨hg, ha, hb⟩ := hc
    obtain ⟨g1, g2, g3, g4, g5, g6⟩ := gloveB_iff.1 hg
    obtain ⟨s1, s2, s3⟩ := small_sum l g2 g4
    obtain ⟨t1, t2, t3⟩ := small_sum r (by omega) g5
    have ha' := ha
    have hb' := hb
    simp only [Bool.and_eq_true, decide_eq_true_eq] at ha' hb'
    obtain ⟨K3, h3⟩ := gvBadM_ev l r g2 g3 g4 g5 l.length 0 a b (by omega) (by omega) (by omega) (by omega) (by omega) (by omega)
    obtain ⟨K4, h4⟩ := isSafe_ev l r g2 g3 g4 g5 a b (by omega) (by omega)
    obtain ⟨_, hlen, K9, h9⟩ := Bad_core l r g2 g3 g4 g5 a b (by omega) (by omega)
    simp only [List.drop_zero] at h3
    have h3' : ∀ k, K3 ≤ k → spec_gvBad.f k l r 0 a b = some (outD (dB l r 0 a b)) := h3
    clear h3
    simp only at h4 h9
    refine ⟨outD (dB l r 0 a b), K1 + K2 + K3 + K4 + K5 + K6 + K7 + K8 + K9, by omega, fun k hk => ?_⟩
    simp (disch := omega) only [spec_BadColours.f, impl_BadColours.f, spec_gvChoice.f, impl_isChoice.f, l1In_eq, within_eq, h1, h2, h3', h4, h5, h6, h7, h8, h9, hg, ha, hb, Option.bind_some, if_true, and_self]
  · refine ⟨([], false), K1 + K2 + K5 + K6 + K7 + K8 + 1, by simp, fun k hk => ?_⟩
    obtain ⟨n, rfl⟩ : ∃ n, k = n + 1 := ⟨k - 1, by omega⟩
    simp (disch := omega) only [spec_BadColours.f, impl_BadColours.f, spec_gvChoice.f, impl_isChoice.f, l1In_eq, within_eq, h1, h2, h5, h6, h7, h8, Option.bind_some, impl_BadColours.j0]
    cases hg : gloveB l r with
    | false => simp
    | true =>
      cases ha : (decide (0 ≤ a) && decide (a ≤ wsum 0 l)) with
      | false => simp
      | true =>
        cases hb : (decide (0 ≤ b) && decide (b ≤ wsum 0 r)) with
        | false => simp
        | true => exact absurd ⟨hg, ha, hb⟩ hc

end Go.Proofs.Ytjldifjfgeifcaa.Pure
