/- Plain lemmas over the printed functions of this seat. -/
import Derived.Test.YtjldifjfgeifcaaY0
import Derived.Test.YtjldifjfgeifcaaPx8
set_option linter.unusedVariables false
set_option linter.unusedSimpArgs false
namespace Go.Proofs.Ytjldifjfgeifcaa.Pure
open Go.RowKit Go.Proofs.Ytjldifjfgeifcaa.P Go.Proofs.YtjldifjfgeifcaaW.PrintWords Go.Proofs.YtjldifjfgeifcaaW.PrintLast Go.Proofs.YtjldifjfgeifcaaW.PrintMore

/-! ### Go's wrapped sums and products -/
theorem wrap_add_mul (a q : Int) : wrap64 (a + 18446744073709551616 * q) = wrap64 a := by unfold wrap64; omega
theorem wrap_ex (a : Int) : ∃ q, wrap64 a = a + 18446744073709551616 * q := ⟨(wrap64 a - a) / 18446744073709551616, by unfold wrap64; omega⟩
theorem wrap_add_l (a b : Int) : wrap64 (wrap64 a + b) = wrap64 (a + b) := by
  obtain ⟨q, h⟩ := wrap_ex a
  rw [h, show a + 18446744073709551616 * q + b = a + b + 18446744073709551616 * q by omega, wrap_add_mul]
theorem wrap_add_r (a b : Int) : wrap64 (a + wrap64 b) = wrap64 (a + b) := by rw [Int.add_comm, wrap_add_l, Int.add_comm]
theorem wrap_mul_l (a b : Int) : wrap64 (wrap64 a * b) = wrap64 (a * b) := by
  obtain ⟨q, h⟩ := wrap_ex a
  rw [h, Int.add_mul, Int.mul_assoc, wrap_add_mul]
theorem wrap_mul_r (a b : Int) : wrap64 (a * wrap64 b) = wrap64 (a * b) := by rw [Int.mul_comm, wrap_mul_l, Int.mul_comm]

/-! ### lists told by a function of the place -/
def mp {α : Type} (f : Nat → α) (m : Nat) : List α := (List.range m).map f
theorem mp_len {α : Type} (f : Nat → α) (m : Nat) : (mp f m).length = m := by simp [mp]
theorem mp_set {α : Type} (f : Nat → α) (m i : Nat) (v : α) : (mp f m).set i v = mp (fun j => if j = i then v else f j) m := by
  apply List.ext_getElem (by simp [mp])
  intro j h1 h2
  simp only [mp, List.getElem_set, List.getElem_map, List.getElem_range]
  by_cases h : i = j
  · subst h; simp
  · rw [if_neg h, if_neg (fun e => h e.symm)]
theorem rd_mp (f : Nat → Int) (m i : Nat) (h : i < m) : rd (mp f m) (i : Int) = f i := by
  rw [rd_at _ i (by rw [mp_len]; exact h)]; simp [mp]
theorem mp_rep {α : Type} (v : α) (m : Nat) : List.replicate m v = mp (fun _ => v) m := by
  apply List.ext_getElem (by simp [mp])
  intro j h1 h2
  simp [mp]
theorem mp_ext {α : Type} {f g : Nat → α} (m : Nat) (h : ∀ j, f j = g j) : mp f m = mp g m := by rw [funext h]
def mix {α : Type} (i : Nat) (f g : Nat → α) : Nat → α := fun j => if i < j then f j else g j
theorem mix_top {α : Type} (m : Nat) (f g : Nat → α) : mp (mix m f g) (m + 1) = mp g (m + 1) := by
  apply List.ext_getElem (by simp [mp])
  intro j h1 h2
  simp only [mp, mix, List.getElem_map, List.getElem_range]
  rw [mp_len] at h1
  rw [if_neg (by omega)]

/-! ### the two polynomials of 'all unlike', and of 'unlike, then one of them again' -/
def nD (n : Int) (D : Nat → Int) : Nat → Int := fun j => if j = 0 then D 0 else wrap64 (D j + wrap64 (D (j - 1) * n))
def nE (n : Int) (D E : Nat → Int) : Nat → Int := fun j => if j = 0 then E 0 else wrap64 (E j + wrap64 (wrap64 (E (j - 1) * n) + wrap64 (wrap64 (D (j - 1) * n) * wrap64 (n - 1))))
def polys (D E : Nat → Int) : List Int → (Nat → Int) × (Nat → Int)
  | [] => (D, E)
  | n :: l => polys (nD n D) (nE n D E) l
def oneZ : Nat → Int := fun j => if j = 0 then 1 else 0
theorem chD_l1 (x1 n : Int) (D E : Nat → Int) (m : Nat) (hm : m ≤ 1048577) (l : List Int) (x20 x21 : Int) : ∀ (i k : Nat), i < m →
    spec_chDifferent.l1 (k + i + 1) x1 (mp (mix i (nD n D) D) m) (mp (mix i (nE n D E) E) m) n (i : Int) l x20 x21 = spec_chDifferent.l0 k x1 (mp (nD n D) m) (mp (nE n D E) m) l x20 (wrap64 (x21 + 1)) := by
  intro i
  induction i with
  | zero =>
    intro k hi
    simp only [Nat.add_zero, spec_chDifferent.l1]
    rw [if_neg (by omega)]
    rw [mp_ext (f := mix 0 (nD n D) D) (g := nD n D) m (fun j => by unfold mix; by_cases h : 0 < j <;> simp [h]; simp [show j = 0 by omega, nD]), mp_ext (f := mix 0 (nE n D E) E) (g := nE n D E) m (fun j => by unfold mix; by_cases h : 0 < j <;> simp [h]; simp [show j = 0 by omega, nE])]
  | succ i ih =>
    intro k hi
    have e1 : wrap64 (((i + 1 : Nat) : Int) - 1) = (i : Int) := by rw [wrap_small (by omega) (by omega)]; omega
    have ih' := ih k (by omega)
    obtain ⟨q, hq⟩ : ∃ q, q = k + i + 1 := ⟨_, rfl⟩
    show spec_chDifferent.l1 ((k + i + 1) + 1) _ _ _ _ _ _ _ _ = _
    rw [← hq]
    simp only [spec_chDifferent.l1]
    rw [e1]
    simp only [mp_len]
    rw [if_pos (by omega), if_pos (by omega), if_pos (by omega), if_pos (by omega), if_pos (by omega), if_pos (by omega), if_pos (by omega), rd_mp _ m (i + 1) hi, rd_mp _ m i (by omega), rd_mp _ m (i + 1) hi, rd_mp _ m i (by omega), Int.toNat_natCast, mp_set, mp_set]
    rw [← ih', hq]
    congr 1
    · refine mp_ext m (fun j => ?_)
      unfold mix
      by_cases h : j = i + 1
      · subst h; simp [nD, show ¬ i + 1 < i by omega]
      · by_cases h2 : i < j
        · simp [h, h2, show i + 1 < j by omega]
        · simp [h, h2, show ¬ i + 1 < j by omega]
    · refine mp_ext m (fun j => ?_)
      unfold mix
      by_cases h : j = i + 1
      · subst h; simp [nE, show ¬ i + 1 < i by omega]
      · by_cases h2 : i < j
        · simp [h, h2, show i + 1 < j by omega]
        · simp [h, h2, show ¬ i + 1 < j by omega]
theorem chD_l0 (l : List Int) (hl : l.length ≤ 1048576) (M : Nat) (hm : M ≤ 1048576) : ∀ (n i : Nat) (D E : Nat → Int), l.length - i = n → i ≤ l.length → ∃ K, ∀ k, K ≤ k →
    spec_chDifferent.l0 k (M : Int) (mp D (M + 1)) (mp E (M + 1)) l l.length i = some (mp (polys D E (l.drop i)).1 (M + 1), mp (polys D E (l.drop i)).2 (M + 1)) := by
  intro n
  induction n with
  | zero =>
    intro i D E hd hi
    refine ⟨1, fun k hk => ?_⟩
    obtain ⟨m, rfl⟩ : ∃ m, k = m + 1 := ⟨k - 1, by omega⟩
    obtain rfl : i = l.length := by omega
    simp only [spec_chDifferent.l0]
    rw [if_neg (by omega), List.drop_length]
    rfl
  | succ n ih =>
    intro i D E hd hi
    have hlt : i < l.length := by omega
    obtain ⟨K, h⟩ := ih (i + 1) (nD l[i] D) (nE l[i] D E) (by omega) (by omega)
    refine ⟨K + M + 2, fun k hk => ?_⟩
    obtain ⟨m, rfl⟩ : ∃ m, k = (m + M + 1) + 1 := ⟨k - M - 2, by omega⟩
    simp only [spec_chDifferent.l0]
    rw [if_pos (by omega), if_pos (by omega), if_pos (by omega), rd_at l i hlt]
    have h1 := chD_l1 (M : Int) l[i] D E (M + 1) (by omega) l l.length i M m (by omega)
    rw [mix_top, mix_top] at h1
    rw [h1, wrap_succ hlt (by omega), h m (by omega), List.drop_eq_getElem_cons hlt]
    rfl
theorem chD_ev (l : List Int) (hl : l.length ≤ 1048576) (M : Nat) (hm : M ≤ 1048576) : ∃ K, ∀ k, K ≤ k → spec_chDifferent.f k l (M : Int) = some (mp (polys oneZ (fun _ => 0) l).1 (M + 1), mp (polys oneZ (fun _ => 0) l).2 (M + 1)) := by
  obtain ⟨K, h⟩ := chD_l0 l hl M hm l.length 0 oneZ (fun _ => 0) (by omega) (by omega)
  refine ⟨K, fun k hk => ?_⟩
  have e1 : wrap64 ((M : Int) + 1) = ((M + 1 : Nat) : Int) := by rw [wrap_small (by omega) (by omega)]; omega
  unfold spec_chDifferent.f
  rw [e1, Int.toNat_natCast, if_pos (by omega), if_pos (by omega), Option.bind_some, if_pos (by rw [List.length_replicate]; omega), mp_rep, show (0 : Int).toNat = 0 from rfl, mp_set]
  have := h k hk
  rw [List.drop_zero] at this
  exact this

theorem rdT_mp (f : Nat → S59) (m i : Nat) (h : i < m) : rd_T59 (mp f m) (i : Int) = f i := by
  simp [rd_T59, List.getD_eq_getElem?_getD, mp, h]
def prS (D E : Nat → Int) : Nat → S59 := fun j => ⟨D j, E j⟩
theorem nE_eq (n d0 e0 e1 : Int) : wrap64 (e1 + wrap64 (wrap64 (n * e0) + wrap64 (wrap64 (n * wrap64 (n - 1)) * d0))) = wrap64 (e1 + wrap64 (wrap64 (e0 * n) + wrap64 (wrap64 (d0 * n) * wrap64 (n - 1)))) := by
  rw [Int.mul_comm n e0, wrap_mul_l, wrap_mul_l, wrap_mul_r]
  rw [show n * wrap64 (n - 1) * d0 = d0 * n * wrap64 (n - 1) by rw [Int.mul_comm (n * wrap64 (n - 1)) d0, Int.mul_assoc]]
  rw [wrap_mul_r]
theorem unl_l1 (x0 : List Int) (n : Int) (D E : Nat → Int) (m : Nat) (hm : m ≤ 1048577) (l : List Int) (x20 x21 : Int) : ∀ (i k : Nat), i < m →
    impl_unlikes.l1 (k + i + 1) x0 (mp (prS (mix i (nD n D) D) (mix i (nE n D E) E)) m) n (i : Int) l x20 x21 = impl_unlikes.l0 k x0 (mp (prS (nD n D) (nE n D E)) m) l x20 (wrap64 (x21 + 1)) := by
  intro i
  induction i with
  | zero =>
    intro k hi
    simp only [Nat.add_zero, impl_unlikes.l1]
    rw [if_neg (by omega)]
    rw [mp_ext (f := prS (mix 0 (nD n D) D) (mix 0 (nE n D E) E)) (g := prS (nD n D) (nE n D E)) m (fun j => by unfold prS mix; by_cases h : 0 < j <;> simp [h]; simp [show j = 0 by omega, nE, nD])]
  | succ i ih =>
    intro k hi
    have e1 : wrap64 (((i + 1 : Nat) : Int) - 1) = (i : Int) := by rw [wrap_small (by omega) (by omega)]; omega
    have ih' := ih k (by omega)
    obtain ⟨q, hq⟩ : ∃ q, q = k + i + 1 := ⟨_, rfl⟩
    show impl_unlikes.l1 ((k + i + 1) + 1) _ _ _ _ _ _ _ = _
    rw [← hq]
    simp only [impl_unlikes.l1]
    rw [e1]
    simp only [mp_len]
    rw [if_pos (by omega), if_pos (by omega), if_pos (by omega), if_pos (by omega), if_pos (by omega), rdT_mp _ m (i + 1) hi, rdT_mp _ m i (by omega), Int.toNat_natCast, mp_set, Option.bind_some, rdT_mp _ m (i + 1) hi, rdT_mp _ m i (by omega), mp_set]
    rw [← ih', hq]
    congr 1
    refine mp_ext m (fun j => ?_)
    unfold mix prS
    by_cases h : j = i + 1
    · subst h; simp [nD, nE, nE_eq, Int.mul_comm n (D i), show ¬ i + 1 < i by omega]
    · by_cases h2 : i < j
      · simp [h, h2, show i + 1 < j by omega]
      · simp [h, h2, show ¬ i + 1 < j by omega]
theorem unl_l0 (l : List Int) (hl : l.length ≤ 1048576) : ∀ (n i : Nat) (D E : Nat → Int), l.length - i = n → i ≤ l.length → ∃ K, ∀ k, K ≤ k →
    impl_unlikes.l0 k l (mp (prS D E) (l.length + 1)) l l.length i = some (mp (prS (polys D E (l.drop i)).1 (polys D E (l.drop i)).2) (l.length + 1)) := by
  intro n
  induction n with
  | zero =>
    intro i D E hd hi
    refine ⟨1, fun k hk => ?_⟩
    obtain ⟨m, rfl⟩ : ∃ m, k = m + 1 := ⟨k - 1, by omega⟩
    obtain rfl : i = l.length := by omega
    simp only [impl_unlikes.l0]
    rw [if_neg (by omega), List.drop_length]
    rfl
  | succ n ih =>
    intro i D E hd hi
    have hlt : i < l.length := by omega
    obtain ⟨K, h⟩ := ih (i + 1) (nD l[i] D) (nE l[i] D E) (by omega) (by omega)
    refine ⟨K + l.length + 2, fun k hk => ?_⟩
    obtain ⟨m, rfl⟩ : ∃ m, k = (m + l.length + 1) + 1 := ⟨k - l.length - 2, by omega⟩
    simp only [impl_unlikes.l0]
    rw [if_pos (by omega), if_pos (by omega), if_pos (by omega), rd_at l i hlt]
    have h1 := unl_l1 l l[i] D E (l.length + 1) (by omega) l l.length i l.length m (by omega)
    have e : mp (prS (mix l.length (nD l[i] D) D) (mix l.length (nE l[i] D E) E)) (l.length + 1) = mp (prS D E) (l.length + 1) := by
      apply List.ext_getElem (by simp [mp])
      intro j h1 h2
      simp only [mp, mix, prS, List.getElem_map, List.getElem_range]
      rw [mp_len] at h1
      rw [if_neg (by omega), if_neg (by omega)]
    rw [e] at h1
    rw [h1, wrap_succ hlt (by omega), h m (by omega), List.drop_eq_getElem_cons hlt]
    rfl
theorem unl_ev (l : List Int) (hl : l.length ≤ 1048576) : ∃ K, ∀ k, K ≤ k → impl_unlikes.f k l = some (mp (prS (polys oneZ (fun _ => 0) l).1 (polys oneZ (fun _ => 0) l).2) (l.length + 1)) := by
  obtain ⟨K, h⟩ := unl_l0 l hl l.length 0 oneZ (fun _ => 0) (by omega) (by omega)
  refine ⟨K, fun k hk => ?_⟩
  have e1 : wrap64 ((l.length : Int) + 1) = ((l.length + 1 : Nat) : Int) := by rw [wrap_small (by omega) (by omega)]; omega
  unfold impl_unlikes.f
  rw [e1, Int.toNat_natCast, if_pos (by omega), if_pos (by omega), Option.bind_some, if_pos (by rw [List.length_replicate]; omega), mp_rep, show (0 : Int).toNat = 0 from rfl, mp_set]
  have := h k hk
  rw [List.drop_zero] at this
  rw [← this]
  congr 1
  refine mp_ext _ (fun j => ?_)
  have ez : (z59 : S59) = ⟨0, 0⟩ := rfl
  have er : (rd_T59 (mp (fun _ => (z59 : S59)) (l.length + 1)) 0).f1 = 0 := by have := rdT_mp (fun _ => (z59 : S59)) (l.length + 1) 0 (by omega); rw [show ((0 : Nat) : Int) = 0 from rfl] at this; rw [this, ez]
  unfold prS oneZ
  by_cases h0 : j = 0
  · simp [h0, er]
  · simp [h0, ez]

end Go.Proofs.Ytjldifjfgeifcaa.Pure
