/- Plain lemmas over the printed functions of this seat. -/
import Derived.Test.YtjldifjfgeifcaaY2
import Derived.Test.YtjldifjfgeifcaaPx5
set_option linter.unusedVariables false
set_option linter.unusedSimpArgs false
namespace Go.Proofs.Ytjldifjfgeifcaa.Pure
open Go.RowKit Go.Proofs.Ytjldifjfgeifcaa.P Go.Proofs.YtjldifjfgeifcaaW.PrintWords Go.Proofs.YtjldifjfgeifcaaW.PrintLast Go.Proofs.YtjldifjfgeifcaaW.PrintMore

/-! ### 'from some number of rounds on' -/
def Ev {α : Type} (f : Nat → Option α) (r : α) : Prop := ∃ K, ∀ k, K ≤ k → f k = some r
theorem Ev.step {α : Type} {f g : Nat → Option α} {r : α} (e : Ev g r) (h : ∀ k, f (k + 1) = g k) : Ev f r := by
  obtain ⟨K, hK⟩ := e
  refine ⟨K + 1, fun k hk => ?_⟩
  obtain ⟨m, rfl⟩ : ∃ m, k = m + 1 := ⟨k - 1, by omega⟩
  rw [h]; exact hK m (by omega)
theorem Ev.stepFrom {α : Type} {f g : Nat → Option α} {r : α} (e : Ev g r) (K0 : Nat) (h : ∀ k, K0 ≤ k → f (k + 1) = g k) : Ev f r := by
  obtain ⟨K, hK⟩ := e
  refine ⟨K + K0 + 1, fun k hk => ?_⟩
  obtain ⟨m, rfl⟩ : ∃ m, k = m + 1 := ⟨k - 1, by omega⟩
  rw [h m (by omega)]; exact hK m (by omega)
theorem Ev.now {α : Type} {f : Nat → Option α} {r : α} (h : ∀ k, f (k + 1) = some r) : Ev f r := by
  refine ⟨1, fun k hk => ?_⟩
  obtain ⟨m, rfl⟩ : ∃ m, k = m + 1 := ⟨k - 1, by omega⟩
  exact h m

/-! ### the program's table: the most socks with at most q pairs -/
def inner (f : Nat → Int) (n : Int) (q : Nat) : Nat → Nat → Int → Int
  | 0, _, v => v
  | m + 1, c, v => if (c : Int) ≤ n ∧ c / 2 ≤ q then inner f n q m (c + 1) (mx v (wrap64 (c + f (q - c / 2)))) else v
def W : List Int → Nat → Int
  | [], _ => 0
  | n :: l, q => inner (W l) n q 22 0 0
def upd (g : Nat → Int) (q : Nat) (v : Int) : Nat → Int := fun j => if j = q then v else g j
theorem half_nat (c : Nat) (hc : c ≤ 1000) : wrap64 (Int.tdiv (c : Int) 2) = ((c / 2 : Nat) : Int) := by
  rw [Int.tdiv_eq_ediv_of_nonneg (by omega), wrap_small (by omega) (by omega)]; omega
theorem wrap_nsub {a b : Nat} (h : a ≤ b) (hb : b ≤ 9223372036854775807) : wrap64 ((b : Int) - (a : Int)) = ((b - a : Nat) : Int) := by
  unfold wrap64; omega
theorem set_row (T : List (List Int)) (i : Nat) (R : List Int) (h : i < T.length) : rd_L1 (T.set i R) (i : Int) = R := by
  simp [rd_L1, List.getD_eq_getElem?_getD, h]
theorem set_next (T : List (List Int)) (i : Nat) (R : List Int) : rd_L1 (T.set i R) ((i + 1 : Nat) : Int) = rd_L1 T ((i + 1 : Nat) : Int) := by
  simp [rd_L1, List.getD_eq_getElem?_getD, List.getElem?_set]
theorem w_l2 (l : List Int) (p : Nat) (hp : p ≤ 1000) (T : List (List Int)) (i q : Nat) (hi : i < l.length) (hL : l.length ≤ 1000) (hT : T.length = l.length + 1) (f : Nat → Int) (hf : rd_L1 T ((i + 1 : Nat) : Int) = mp f (p + 1)) (hq : q < p + 1) (hn : l[i] ≤ 20) (r : List (List Int)) :
    ∀ (m c : Nat) (g : Nat → Int), 21 ≤ c + m → c ≤ 21 → Ev (fun k => impl_worst.l1 k l p (T.set i (mp (upd g q (inner f l[i] q m c (g q))) (p + 1))) i ((p + 1 : Nat) : Int) ((q + 1 : Nat) : Int)) r →
      Ev (fun k => impl_worst.l2 k l p (T.set i (mp g (p + 1))) i q c ((p + 1 : Nat) : Int) q) r := by
  have stop : ∀ (c : Nat) (g : Nat → Int), c ≤ 21 → ¬ ((c : Int) ≤ l[i] ∧ c / 2 ≤ q) → ∀ k, impl_worst.l2 (k + 1) l p (T.set i (mp g (p + 1))) i q c ((p + 1 : Nat) : Int) q = impl_worst.l1 k l p (T.set i (mp g (p + 1))) i ((p + 1 : Nat) : Int) ((q + 1 : Nat) : Int) := by
    intro c g hc h k
    simp only [impl_worst.l2]
    rw [if_pos (by omega), if_pos (by omega), rd_at l i hi, half_nat c (by omega), wrap_succ (i := q) (n := p + 1) hq (by omega)]
    by_cases h1 : (c : Int) ≤ l[i]
    · rw [if_pos h1, if_neg (by omega)]
    · rw [if_neg h1]
  have same : ∀ g : Nat → Int, mp (upd g q (g q)) (p + 1) = mp g (p + 1) := fun g => mp_ext _ (fun j => by unfold upd; split <;> simp_all)
  intro m
  induction m with
  | zero =>
    intro c g h1 h2 e
    refine Ev.step e (fun k => ?_)
    simp only [inner]
    rw [same]
    exact stop c g h2 (by omega) k
  | succ m ih =>
    intro c g h1 h2 e
    by_cases h : (c : Int) ≤ l[i] ∧ c / 2 ≤ q
    · have hc : c ≤ 20 := by omega
      simp only [inner, if_pos h] at e
      have ih' := ih (c + 1) (upd g q (mx (g q) (wrap64 (c + f (q - c / 2))))) (by omega) (by omega) (by
        have e1 : upd g q (mx (g q) (wrap64 (c + f (q - c / 2)))) q = mx (g q) (wrap64 (c + f (q - c / 2))) := by unfold upd; rw [if_pos rfl]
        rw [e1]
        rw [mp_ext (f := upd (upd g q (mx (g q) (wrap64 (c + f (q - c / 2))))) q (inner f l[i] q m (c + 1) (mx (g q) (wrap64 (c + f (q - c / 2)))))) (g := upd g q (inner f l[i] q m (c + 1) (mx (g q) (wrap64 (c + f (q - c / 2)))))) (p + 1) (fun j => by unfold upd; split <;> rfl)]
        exact e)
      refine Ev.step ih' (fun k => ?_)
      have d0 : (0 : Int) ≤ (i : Int) := by omega
      have d1 : (i : Int) < (l.length : Int) := by omega
      have d2 : ((c / 2 : Nat) : Int) ≤ (q : Int) := by omega
      have d3 : (i : Int) < ((l.length + 1 : Nat) : Int) := by omega
      have d4 : (0 : Int) ≤ (q : Int) := by omega
      have d5 : (q : Int) < ((p + 1 : Nat) : Int) := by omega
      have d6 : (0 : Int) ≤ ((i + 1 : Nat) : Int) := by omega
      have d7 : ((i + 1 : Nat) : Int) < ((l.length + 1 : Nat) : Int) := by omega
      have d8 : (0 : Int) ≤ ((q - c / 2 : Nat) : Int) := by omega
      have d9 : ((q - c / 2 : Nat) : Int) < ((p + 1 : Nat) : Int) := by omega
      have dT : i < T.length := by omega
      have dq : q - c / 2 < p + 1 := by omega
      have b1 : q ≤ 9223372036854775807 := by omega
      have b2 : l.length ≤ 9223372036854775807 := by omega
      have b3 : c < 30 := by omega
      have b4 : c ≤ 1000 := by omega
      have b5 : 30 ≤ 9223372036854775807 := by omega
      have eq1 := wrap_nsub h.2 b1
      have ei := wrap_succ hi b2
      have ec := wrap_succ b3 b5
      simp only [impl_worst.l2]
      rw [if_pos d0, if_pos d1, rd_at l i hi, half_nat c b4, if_pos h.1, if_pos d2, ei, eq1, ec]
      rw [set_row T i _ dT, set_next, hf]
      simp only [mp_len, List.length_set, hT]
      rw [if_pos d3, if_pos d4, if_pos d5, if_pos d6, if_pos d7, if_pos d8, if_pos d9, rd_mp g _ q hq, rd_mp f _ _ dq, Int.toNat_natCast, Int.toNat_natCast, mp_set, List.set_set]
      rfl
    · simp only [inner, if_neg h] at e
      rw [same] at e
      exact Ev.step e (stop c g h2 h)
theorem w_l1 (l : List Int) (p : Nat) (hp : p ≤ 1000) (T : List (List Int)) (i : Nat) (hi : i < l.length) (hL : l.length ≤ 1000) (hT : T.length = l.length + 1) (f : Nat → Int) (hf : rd_L1 T ((i + 1 : Nat) : Int) = mp f (p + 1)) (hn : l[i] ≤ 20) (r : List (List Int))
    (e : Ev (fun k => impl_worst.l0 k l p (T.set i (mp (fun j => inner f l[i] j 22 0 0) (p + 1))) ((i : Int) - 1)) r) :
    ∀ (n q : Nat), p + 1 - q = n → q ≤ p + 1 → Ev (fun k => impl_worst.l1 k l p (T.set i (mp (fun j => if j < q then inner f l[i] j 22 0 0 else 0) (p + 1))) i ((p + 1 : Nat) : Int) q) r := by
  intro n
  induction n with
  | zero =>
    intro q hd hq
    obtain rfl : q = p + 1 := by omega
    refine Ev.step e (fun k => ?_)
    simp only [impl_worst.l1]
    rw [if_neg (by omega), wrap_small (by omega) (by omega)]
    have : mp (fun j => if j < p + 1 then inner f l[i] j 22 0 0 else 0) (p + 1) = mp (fun j => inner f l[i] j 22 0 0) (p + 1) := by
      apply List.ext_getElem (by simp [mp])
      intro j h1 h2
      rw [mp_len] at h1
      simp [mp, h1]
    rw [this]
  | succ n ih =>
    intro q hd hq
    have ih' := ih (q + 1) (by omega) (by omega)
    have h2 := w_l2 l p hp T i q hi hL hT f hf (by omega) hn r 22 0 (fun j => if j < q then inner f l[i] j 22 0 0 else 0) (by omega) (by omega) (by
      have : mp (upd (fun j => if j < q then inner f l[i] j 22 0 0 else 0) q (inner f l[i] q 22 0 ((fun j => if j < q then inner f l[i] j 22 0 0 else 0) q))) (p + 1) = mp (fun j => if j < q + 1 then inner f l[i] j 22 0 0 else 0) (p + 1) := mp_ext _ (fun j => by
        unfold upd
        by_cases h : j = q
        · subst h; simp
        · by_cases h3 : j < q
          · simp [h, h3, show j < q + 1 by omega]
          · simp [h, h3, show ¬ j < q + 1 by omega])
      rw [this]; exact ih')
    refine Ev.step h2 (fun k => ?_)
    simp only [impl_worst.l1]
    rw [if_pos (by omega)]
    rfl
theorem w_l0 (l : List Int) (p : Nat) (hp : p ≤ 1000) (hL : l.length ≤ 1000) (hn : ∀ x ∈ l, x ≤ 20) : ∀ (i : Nat) (T : List (List Int)), i ≤ l.length → T.length = l.length + 1 → (∀ j, i ≤ j → j ≤ l.length → rd_L1 T (j : Int) = mp (W (l.drop j)) (p + 1)) →
    ∃ T', Ev (fun k => impl_worst.l0 k l p T ((i : Int) - 1)) T' ∧ T'.length = l.length + 1 ∧ ∀ j, j ≤ l.length → rd_L1 T' (j : Int) = mp (W (l.drop j)) (p + 1) := by
  intro i
  induction i with
  | zero =>
    intro T hi hT h
    refine ⟨T, Ev.now (fun k => ?_), hT, fun j hj => h j (by omega) hj⟩
    simp only [impl_worst.l0]
    rw [if_neg (by omega)]
  | succ i ih =>
    intro T hi hT h
    have hlt : i < l.length := by omega
    have eW : (fun j => inner (W (l.drop (i + 1))) l[i] j 22 0 0) = W (l.drop i) := by
      rw [List.drop_eq_getElem_cons hlt]; rfl
    obtain ⟨T', e, e1, e2⟩ := ih (T.set i (mp (W (l.drop i)) (p + 1))) (by omega) (by simp [hT]) (fun j hj hj2 => by
      by_cases h0 : j = i
      · subst h0; exact set_row T j _ (by omega)
      · rw [← h j (by omega) hj2]
        simp [rd_L1, List.getD_eq_getElem?_getD, List.getElem?_set, show ¬ i = j by omega])
    refine ⟨T', ?_, e1, e2⟩
    have h1 := w_l1 l p hp T i hlt hL hT (W (l.drop (i + 1))) (h (i + 1) (by omega) (by omega)) (hn _ (List.getElem_mem hlt)) T' (by rw [eW]; exact e) (p + 1) 0 (by omega) (by omega)
    refine Ev.step h1 (fun k => ?_)
    have ei : ((i + 1 : Nat) : Int) - 1 = (i : Int) := by omega
    have ep : wrap64 ((p : Int) + 1) = ((p + 1 : Nat) : Int) := by rw [wrap_small (by omega) (by omega)]; omega
    simp only [impl_worst.l0]
    rw [ei, if_pos (by omega), ep, Int.toNat_natCast, Int.toNat_natCast, if_pos (by omega), if_pos (by omega), if_pos (by omega), if_pos (by omega), Option.bind_some, set_row T i _ (by omega), List.length_replicate, mp_rep]
    rfl
theorem worst_ev (l : List Int) (p : Nat) (hp : p ≤ 1000) (hL : l.length ≤ 1000) (hn : ∀ x ∈ l, x ≤ 20) : ∃ T, Ev (fun k => impl_worst.f k l p) T ∧ T.length = l.length + 1 ∧ ∀ j, j ≤ l.length → rd_L1 T (j : Int) = mp (W (l.drop j)) (p + 1) := by
  have eL : wrap64 ((l.length : Int) + 1) = ((l.length + 1 : Nat) : Int) := by rw [wrap_small (by omega) (by omega)]; omega
  have ep : wrap64 ((p : Int) + 1) = ((p + 1 : Nat) : Int) := by rw [wrap_small (by omega) (by omega)]; omega
  have eL2 : wrap64 ((l.length : Int) - 1) = (l.length : Int) - 1 := wrap_small (by omega) (by omega)
  obtain ⟨T', e, e1, e2⟩ := w_l0 l p hp hL hn l.length ((List.replicate (l.length + 1) []).set l.length (List.replicate (p + 1) 0)) (by omega) (by simp) (fun j hj hj2 => by
    obtain rfl : j = l.length := by omega
    rw [set_row _ _ _ (by simp), List.drop_length, mp_rep]; rfl)
  refine ⟨T', ?_, e1, e2⟩
  obtain ⟨K, hK⟩ := e
  refine ⟨K, fun k hk => ?_⟩
  simp only [impl_worst.f]
  rw [eL, ep, eL2, Int.toNat_natCast, Int.toNat_natCast, Int.toNat_natCast, if_pos (by omega), if_pos (by omega), Option.bind_some, if_pos (by omega), if_pos (by omega), if_pos (by omega), if_pos (by rw [List.length_replicate]; omega)]
  exact hK k hk

end Go.Proofs.Ytjldifjfgeifcaa.Pure
