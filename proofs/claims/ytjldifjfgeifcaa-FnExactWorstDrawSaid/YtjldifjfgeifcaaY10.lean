/- Plain lemmas over the printed functions of this seat. -/
import Derived.Test.YtjldifjfgeifcaaY9
set_option linter.unusedVariables false
set_option linter.unusedSimpArgs false
namespace Go.Proofs.Ytjldifjfgeifcaa.Pure
open Go.RowKit Go.Proofs.Ytjldifjfgeifcaa.P Go.Proofs.YtjldifjfgeifcaaW.PrintWords Go.Proofs.YtjldifjfgeifcaaW.PrintLast Go.Proofs.YtjldifjfgeifcaaW.PrintMore

/-! ### the reference's row: the most socks with exactly q pairs, or -1 -/
def inner2 (f : Nat → Int) (n : Int) (q : Nat) : Nat → Nat → Int → Int
  | 0, _, v => v
  | m + 1, c, v => if (c : Int) ≤ n ∧ c / 2 ≤ q then (if f (q - c / 2) ≥ 0 then inner2 f n q m (c + 1) (mx v (wrap64 (f (q - c / 2) + c))) else inner2 f n q m (c + 1) v) else v
def nextB (n : Int) (f : Nat → Int) : Nat → Int := fun q => inner2 f n q 22 0 (-1)
def rowB (f : Nat → Int) : List Int → Nat → Int
  | [] => f
  | n :: l => rowB (nextB n f) l
def oneB : Nat → Int := fun j => if j = 0 then 0 else -1
theorem l1Most_eq (a b : Int) : spec_l1Most.f a b = some (mx a b) := by unfold spec_l1Most.f mx; split <;> split <;> first | rfl | (congr 1; omega)
theorem upd_same (g : Nat → Int) (q p : Nat) : mp (upd g q (g q)) (p + 1) = mp g (p + 1) := mp_ext _ (fun j => by unfold upd; split <;> simp_all)
theorem upd_at (g : Nat → Int) (q : Nat) (v : Int) : upd g q v q = v := by unfold upd; rw [if_pos rfl]
theorem upd_upd (g : Nat → Int) (q p : Nat) (v w : Int) : mp (upd (upd g q v) q w) (p + 1) = mp (upd g q w) (p + 1) := mp_ext _ (fun j => by unfold upd; split <;> rfl)
theorem m_l3 (p : Nat) (hp : p ≤ 1000) (f : Nat → Int) (n : Int) (hn : n ≤ 20) (q : Nat) (hq : q < p + 1) (l : List Int) (L i : Int) (r : List Int) :
    ∀ (m c : Nat) (g : Nat → Int), 21 ≤ c + m → c ≤ 21 → Ev (fun k => spec_soMost.l2 k p (mp f (p + 1)) n (mp (upd g q (inner2 f n q m c (g q))) (p + 1)) l L i ((p + 1 : Nat) : Int) ((q + 1 : Nat) : Int)) r →
      Ev (fun k => spec_soMost.l3 k p (mp f (p + 1)) n (mp g (p + 1)) q c l L i ((p + 1 : Nat) : Int) q) r := by
  have stop : ∀ (c : Nat) (g : Nat → Int), c ≤ 21 → ¬ ((c : Int) ≤ n ∧ c / 2 ≤ q) → ∀ k, spec_soMost.l3 (k + 1 + 1) p (mp f (p + 1)) n (mp g (p + 1)) q c l L i ((p + 1 : Nat) : Int) q = spec_soMost.l2 k p (mp f (p + 1)) n (mp g (p + 1)) l L i ((p + 1 : Nat) : Int) ((q + 1 : Nat) : Int) := by
    intro c g hc h k
    have b2 : p + 1 ≤ 9223372036854775807 := by omega
    have b4 : c ≤ 1000 := by omega
    by_cases h1 : (c : Int) ≤ n
    · have d2 : decide (((c / 2 : Nat) : Int) ≤ (q : Int)) = false := by simp; omega
      simp only [spec_soMost.l3, spec_soMost.j4]
      rw [if_pos h1, half_nat c b4, d2, if_neg Bool.false_ne_true, wrap_succ hq b2]
    · simp only [spec_soMost.l3, spec_soMost.j4]
      rw [if_neg h1, if_neg Bool.false_ne_true, wrap_succ hq b2]
  intro m
  induction m with
  | zero =>
    intro c g h1 h2 e
    refine Ev.step (Ev.step e (fun k => ?_)) (fun k => rfl)
    simp only [inner2]
    rw [upd_same]
    exact stop c g h2 (by omega) k
  | succ m ih =>
    intro c g h1 h2 e
    by_cases h : (c : Int) ≤ n ∧ c / 2 ≤ q
    · have d2 : decide (((c / 2 : Nat) : Int) ≤ (q : Int)) = true := by simp; omega
      have d4 : (0 : Int) ≤ (q : Int) := by omega
      have d5 : (q : Int) < ((p + 1 : Nat) : Int) := by omega
      have d8 : (0 : Int) ≤ ((q - c / 2 : Nat) : Int) := by omega
      have d9 : ((q - c / 2 : Nat) : Int) < ((p + 1 : Nat) : Int) := by omega
      have dq : q - c / 2 < p + 1 := by omega
      have b1 : q ≤ 9223372036854775807 := by omega
      have b3 : c < 30 := by omega
      have b4 : c ≤ 1000 := by omega
      have b5 : 30 ≤ 9223372036854775807 := by omega
      have a1 : 21 ≤ c + 1 + m := by omega
      have a2 : c + 1 ≤ 21 := by omega
      have eq1 := wrap_nsub h.2 b1
      have ec := wrap_succ b3 b5
      simp only [inner2, if_pos h] at e
      by_cases hf : f (q - c / 2) ≥ 0
      · rw [if_pos hf] at e
        have ih' := ih (c + 1) (upd g q (mx (g q) (wrap64 (f (q - c / 2) + c)))) a1 a2 (by rw [upd_at, upd_upd]; exact e)
        refine Ev.step (Ev.step ih' (g := fun k => spec_soMost.l3 k p (mp f (p + 1)) n (mp (upd g q (mx (g q) (wrap64 (f (q - c / 2) + c)))) (p + 1)) q ((c + 1 : Nat) : Int) l L i ((p + 1 : Nat) : Int) q) (f := fun k => spec_soMost.j4 k p (mp f (p + 1)) n (mp g (p + 1)) q c l L i ((p + 1 : Nat) : Int) q true) (fun k => ?_)) (fun k => ?_)
        · simp only [spec_soMost.j4]
          rw [if_pos trivial, half_nat c b4, eq1, if_pos d8, mp_len, if_pos d9, rd_mp f _ _ dq, if_pos hf, if_pos d4, mp_len, if_pos d5, rd_mp g _ q hq, l1Most_eq, Option.bind_some, Int.toNat_natCast, mp_set, ec]
          rfl
        · simp only [spec_soMost.l3]
          rw [if_pos h.1, half_nat c b4, d2]
      · rw [if_neg hf] at e
        have ih' := ih (c + 1) g a1 a2 e
        refine Ev.step (Ev.step ih' (g := fun k => spec_soMost.l3 k p (mp f (p + 1)) n (mp g (p + 1)) q ((c + 1 : Nat) : Int) l L i ((p + 1 : Nat) : Int) q) (f := fun k => spec_soMost.j4 k p (mp f (p + 1)) n (mp g (p + 1)) q c l L i ((p + 1 : Nat) : Int) q true) (fun k => ?_)) (fun k => ?_)
        · simp only [spec_soMost.j4]
          rw [if_pos trivial, half_nat c b4, eq1, if_pos d8, mp_len, if_pos d9, rd_mp f _ _ dq, if_neg hf, ec]
        · simp only [spec_soMost.l3]
          rw [if_pos h.1, half_nat c b4, d2]
    · simp only [inner2, if_neg h] at e
      rw [upd_same] at e
      obtain ⟨K, hK⟩ := e
      refine ⟨K + 2, fun k hk => ?_⟩
      obtain ⟨j, rfl⟩ : ∃ j, k = j + 1 + 1 := ⟨k - 2, by omega⟩
      exact (stop c g h2 h j).trans (hK j (by omega))
theorem m_l2 (p : Nat) (hp : p ≤ 1000) (f : Nat → Int) (n : Int) (hn : n ≤ 20) (l : List Int) (L : Int) (i : Nat) (hi : i ≤ 1000) (r : List Int)
    (e : Ev (fun k => spec_soMost.l1 k p (mp (nextB n f) (p + 1)) l L ((i + 1 : Nat) : Int)) r) :
    ∀ (d q : Nat), p + 1 - q = d → q ≤ p + 1 → Ev (fun k => spec_soMost.l2 k p (mp f (p + 1)) n (mp (fun j => if j < q then nextB n f j else 0) (p + 1)) l L i ((p + 1 : Nat) : Int) q) r := by
  intro d
  induction d with
  | zero =>
    intro q hd hq
    obtain rfl : q = p + 1 := by omega
    have d1 : ¬ (((p + 1 : Nat) : Int) < ((p + 1 : Nat) : Int)) := by omega
    have b1 : i < 2000 := by omega
    have ei := wrap_succ b1 (by omega)
    refine Ev.step e (fun k => ?_)
    simp only [spec_soMost.l2]
    rw [if_neg d1, ei]
    have : mp (fun j => if j < p + 1 then nextB n f j else 0) (p + 1) = mp (nextB n f) (p + 1) := by
      apply List.ext_getElem (by simp [mp])
      intro j h1 h2
      rw [mp_len] at h1
      simp [mp, h1]
    rw [this]
  | succ d ih =>
    intro q hd hq
    have ih' := ih (q + 1) (by omega) (by omega)
    have d4 : (0 : Int) ≤ (q : Int) := by omega
    have d5 : (q : Int) < ((p + 1 : Nat) : Int) := by omega
    have h2 := m_l3 p hp f n hn q (by omega) l L i r 22 0 (upd (fun j => if j < q then nextB n f j else 0) q (-1)) (by omega) (by omega) (by
      rw [upd_at, upd_upd]
      have : mp (upd (fun j => if j < q then nextB n f j else 0) q (inner2 f n q 22 0 (-1))) (p + 1) = mp (fun j => if j < q + 1 then nextB n f j else 0) (p + 1) := mp_ext _ (fun j => by
        unfold upd
        by_cases h : j = q
        · subst h; simp [nextB]
        · by_cases h3 : j < q
          · simp [h, h3, show j < q + 1 by omega]
          · simp [h, h3, show ¬ j < q + 1 by omega])
      rw [this]; exact ih')
    refine Ev.step h2 (fun k => ?_)
    simp only [spec_soMost.l2]
    rw [if_pos d5, if_pos d4, mp_len, if_pos d5, Int.toNat_natCast, mp_set]
    rfl
theorem m_l1 (p : Nat) (hp : p ≤ 1000) (l : List Int) (hL : l.length ≤ 1000) (hn : ∀ x ∈ l, x ≤ 20) : ∀ (d i : Nat) (f : Nat → Int), l.length - i = d → i ≤ l.length →
    Ev (fun k => spec_soMost.l1 k p (mp f (p + 1)) l l.length i) (mp (rowB f (l.drop i)) (p + 1)) := by
  intro d
  induction d with
  | zero =>
    intro i f hd hi
    obtain rfl : i = l.length := by omega
    refine Ev.now (fun k => ?_)
    simp only [spec_soMost.l1]
    rw [if_neg (by omega), List.drop_length]
    rfl
  | succ d ih =>
    intro i f hd hi
    have hlt : i < l.length := by omega
    have d1 : (i : Int) < (l.length : Int) := by omega
    have d0 : (0 : Int) ≤ (i : Int) := by omega
    have dp : (0 : Int) ≤ ((p + 1 : Nat) : Int) := by omega
    have dp2 : p + 1 ≤ 35184372088832 := by omega
    have bp : p < 2000 := by omega
    have ih' := ih (i + 1) (nextB l[i] f) (by omega) (by omega)
    rw [List.drop_eq_getElem_cons hlt]
    have h2 := m_l2 p hp f l[i] (hn _ (List.getElem_mem hlt)) l l.length i (by omega) _ ih' (p + 1) 0 (by omega) (by omega)
    have ep := wrap_succ bp (by omega)
    refine Ev.step h2 (fun k => ?_)
    simp only [spec_soMost.l1]
    rw [if_pos d1, if_pos d0, if_pos d1, ep, Int.toNat_natCast, if_pos dp, if_pos dp2, Option.bind_some, rd_at l i hlt, List.length_replicate, mp_rep]
    rfl
theorem m_l0 (p : Nat) (hp : p ≤ 1000) (l : List Int) (r : List Int) (e : Ev (fun k => spec_soMost.l1 k p (mp oneB (p + 1)) l l.length 0) r) : ∀ (d i : Nat), p + 1 - i = d → i ≤ p + 1 →
    Ev (fun k => spec_soMost.l0 k l p (mp (fun j => if j < i then -1 else 0) (p + 1)) ((p + 1 : Nat) : Int) i) r := by
  intro d
  induction d with
  | zero =>
    intro i hd hi
    obtain rfl : i = p + 1 := by omega
    refine Ev.step e (fun k => ?_)
    simp only [spec_soMost.l0]
    rw [if_neg (by omega), mp_len, if_pos (by omega), show (0 : Int).toNat = 0 from rfl, mp_set]
    have : mp (fun j => if j = 0 then 0 else (fun j => if j < p + 1 then (-1 : Int) else 0) j) (p + 1) = mp oneB (p + 1) := by
      apply List.ext_getElem (by simp [mp])
      intro j h1 h2
      rw [mp_len] at h1
      simp [mp, oneB, h1]
    rw [this]
  | succ d ih =>
    intro i hd hi
    have ih' := ih (i + 1) (by omega) (by omega)
    have hi2 : i < p + 1 := by omega
    have d0 : (0 : Int) ≤ (i : Int) := by omega
    have d1 : (i : Int) < ((p + 1 : Nat) : Int) := by omega
    have ei := wrap_succ hi2 (by omega)
    refine Ev.step ih' (fun k => ?_)
    simp only [spec_soMost.l0]
    rw [if_pos d1, if_pos d0, mp_len, if_pos d1, Int.toNat_natCast, mp_set, ei]
    rw [mp_ext (f := fun j => if j = i then (-1 : Int) else if j < i then -1 else 0) (g := fun j => if j < i + 1 then (-1 : Int) else 0) (p + 1) (fun j => by
      by_cases h : j = i
      · simp [h]
      · by_cases h3 : j < i
        · simp [h, h3, show j < i + 1 by omega]
        · simp [h, h3, show ¬ j < i + 1 by omega])]
theorem most_ev (p : Nat) (hp : p ≤ 1000) (l : List Int) (hL : l.length ≤ 1000) (hn : ∀ x ∈ l, x ≤ 20) : Ev (fun k => spec_soMost.f k l p) (mp (rowB oneB l) (p + 1)) := by
  have bp : p < 2000 := by omega
  have dp : (0 : Int) ≤ ((p + 1 : Nat) : Int) := by omega
  have dp2 : p + 1 ≤ 35184372088832 := by omega
  have h1 := m_l1 p hp l hL hn l.length 0 oneB (by omega) (by omega)
  rw [List.drop_zero] at h1
  obtain ⟨K, hK⟩ := m_l0 p hp l _ h1 (p + 1) 0 (by omega) (by omega)
  have ep := wrap_succ bp (by omega)
  refine ⟨K, fun k hk => ?_⟩
  simp only [spec_soMost.f]
  rw [ep, Int.toNat_natCast, if_pos dp, if_pos dp2, Option.bind_some, List.length_replicate, mp_rep]
  have h := hK k hk
  simpa using h
/-- The greatest of a row, from nought. -/
def top (f : Nat → Int) : Nat → Int
  | 0 => 0
  | m + 1 => mx (top f m) (f m)
theorem f_l0 (f : Nat → Int) (m : Nat) (hm : m ≤ 1001) : ∀ (d i : Nat), m - i = d → i ≤ m → Ev (fun k => spec_soFewer.l0 k (top f i) (mp f m) m i) (top f m) := by
  intro d
  induction d with
  | zero =>
    intro i hd hi
    obtain rfl : i = m := by omega
    refine Ev.now (fun k => ?_)
    simp only [spec_soFewer.l0]
    rw [if_neg (by omega)]
  | succ d ih =>
    intro i hd hi
    have hlt : i < m := by omega
    have d0 : (0 : Int) ≤ (i : Int) := by omega
    have d1 : (i : Int) < (m : Int) := by omega
    have ih' := ih (i + 1) (by omega) (by omega)
    have ei := wrap_succ hlt (by omega)
    refine Ev.step ih' (fun k => ?_)
    simp only [spec_soFewer.l0]
    rw [if_pos d1, if_pos d0, mp_len, if_pos d1, rd_mp f m i hlt, l1Most_eq, Option.bind_some, ei]
    rfl
theorem fewer_ev (p : Nat) (hp : p ≤ 1000) (l : List Int) (hL : l.length ≤ 1000) (hn : ∀ x ∈ l, x ≤ 20) : Ev (fun k => spec_soFewer.f k l ((p : Int) + 1)) (top (rowB oneB l) (p + 1)) := by
  obtain ⟨K1, h1⟩ := most_ev p hp l hL hn
  obtain ⟨K2, h2⟩ := f_l0 (rowB oneB l) (p + 1) (by omega) (p + 1) 0 (by omega) (by omega)
  have e : wrap64 ((p : Int) + 1 - 1) = (p : Int) := by rw [wrap_small (by omega) (by omega)]; omega
  refine ⟨K1 + K2, fun k hk => ?_⟩
  have h := h1 k (by omega)
  simp only at h
  simp only [spec_soFewer.f]
  rw [e, h, Option.bind_some, mp_len]
  exact h2 k (by omega)

end Go.Proofs.Ytjldifjfgeifcaa.Pure
