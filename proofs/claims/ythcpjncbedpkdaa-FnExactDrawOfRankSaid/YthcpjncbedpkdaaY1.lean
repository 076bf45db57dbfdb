/- Plain lemmas over the printed functions of this seat. -/
import Derived.Test.YthcpjncbedpkdaaY0
set_option linter.unusedVariables false
set_option linter.unusedSimpArgs false
namespace Go.Proofs.Ythcpjncbedpkdaa.Pure
open Go.RowKit Go.Proofs.Ythcpjncbedpkdaa.P Go.Proofs.YthcpjncbedpkdaaW.PrintWords Go.Proofs.YthcpjncbedpkdaaW.PrintLast Go.Proofs.YthcpjncbedpkdaaW.PrintMore

/-! ### counting draws -/
theorem sumTo_congr : ∀ (m : Nat) (f g : Nat → Nat), (∀ d, d < m → f d = g d) → sumTo m f = sumTo m g
  | 0, _, _, _ => rfl
  | m + 1, f, g, h => by
    simp only [sumTo]
    rw [sumTo_congr m f g (fun d hd => h d (by omega)), h m (by omega)]
theorem sumTo_zero : ∀ (m : Nat) (f : Nat → Nat), (∀ d, d < m → f d = 0) → sumTo m f = 0
  | 0, _, _ => rfl
  | m + 1, f, h => by
    simp only [sumTo]
    rw [sumTo_zero m f (fun d hd => h d (by omega)), h m (by omega)]
theorem sumTo_add : ∀ (m : Nat) (f g : Nat → Nat), sumTo m (fun d => f d + g d) = sumTo m f + sumTo m g
  | 0, _, _ => rfl
  | m + 1, f, g => by
    simp only [sumTo]
    rw [sumTo_add m f g]; omega
theorem sumTo_swap : ∀ (m n : Nat) (f : Nat → Nat → Nat), sumTo m (fun a => sumTo n (fun b => f a b)) = sumTo n (fun b => sumTo m (fun a => f a b))
  | 0, n, f => (sumTo_zero n _ (fun _ _ => rfl)).symm
  | m + 1, n, f => by
    simp only [sumTo]
    rw [sumTo_swap m n f, ← sumTo_add]
theorem sumTo_mono : ∀ (n m : Nat) (f : Nat → Nat), m ≤ n → sumTo m f ≤ sumTo n f
  | 0, m, f, h => by obtain rfl : m = 0 := by omega
                     exact Nat.le_refl _
  | n + 1, m, f, h => by
    by_cases he : m = n + 1
    · subst he; exact Nat.le_refl _
    · have := sumTo_mono n m f (by omega)
      simp only [sumTo]; omega
theorem sumTo_more : ∀ (n m : Nat) (f : Nat → Nat), m ≤ n → (∀ d, m ≤ d → d < n → f d = 0) → sumTo n f = sumTo m f
  | 0, m, f, h, _ => by obtain rfl : m = 0 := by omega
                        rfl
  | n + 1, m, f, h, h0 => by
    by_cases he : m = n + 1
    · subst he; rfl
    · simp only [sumTo]
      rw [sumTo_more n m f (by omega) (fun d h1 h2 => h0 d h1 (by omega)), h0 n (by omega) (by omega), Nat.add_zero]
/-- What lies behind the first s, each place s further on. -/
theorem sumTo_shift (s : Nat) (c : Nat → Nat) : ∀ m : Nat, sumTo (s + m) (fun p => if s ≤ p then c (p - s) else 0) = sumTo m c
  | 0 => sumTo_zero _ _ (fun d hd => if_neg (by omega))
  | m + 1 => by
    rw [← Nat.add_assoc]
    simp only [sumTo]
    rw [sumTo_shift s c m, if_pos (by omega), Nat.add_sub_cancel_left]
def none_ (_ : Nat) : Nat := 0
def sumN : List Nat → Nat
  | [] => 0
  | n :: r => n + sumN r
def sumH : List Nat → Nat
  | [] => 0
  | n :: r => n / 2 + sumH r
theorem cnt_zero_k (f : Nat → Nat) : ∀ (l : List Nat) (k p : Nat), sumN l < k → cnt f l k p = 0
  | [], k, p, h => by simp only [cnt]; rw [if_neg (by simp only [sumN] at h; omega)]
  | n :: r, k, p, h => by
    simp only [cnt]
    refine sumTo_zero _ _ (fun d hd => ?_)
    simp only [sumN] at h
    by_cases hc : d ≤ k ∧ f d ≤ p
    · rw [if_pos hc]; exact cnt_zero_k f r _ _ (by omega)
    · rw [if_neg hc]
theorem cnt_zero_p : ∀ (l : List Nat) (k p : Nat), sumH l < p → cnt half l k p = 0
  | [], k, p, h => by simp only [cnt]; rw [if_neg (by simp only [sumH] at h; omega)]
  | n :: r, k, p, h => by
    simp only [cnt]
    refine sumTo_zero _ _ (fun d hd => ?_)
    simp only [sumH] at h
    by_cases hc : d ≤ k ∧ half d ≤ p
    · rw [if_pos hc]; exact cnt_zero_p r _ _ (by unfold half; omega)
    · rw [if_neg hc]
theorem cnt_none (n : Nat) (r : List Nat) (k : Nat) : cnt none_ (n :: r) k 0 = sumTo (n + 1) fun d => if d ≤ k then cnt none_ r (k - d) 0 else 0 := by
  simp only [cnt]
  refine sumTo_congr _ _ _ (fun d _ => ?_)
  by_cases hd : d ≤ k
  · rw [if_pos ⟨hd, Nat.zero_le _⟩, if_pos hd, Nat.zero_sub]
  · rw [if_neg (fun h => hd h.1), if_neg hd]
/-- Over all numbers of pairs together. -/
theorem cnt_sum : ∀ (l : List Nat) (k P : Nat), (sumH l ≤ P ∨ k / 2 ≤ P) → sumTo (P + 1) (fun p => cnt half l k p) = cnt none_ l k 0
  | [], k, P, _ => by
    simp only [cnt]
    rw [sumTo_more (P + 1) 1 _ (by omega) (fun d h1 _ => if_neg (by omega))]
    simp [sumTo]
  | n :: r, k, P, h => by
    rw [cnt_none]
    simp only [cnt]
    rw [sumTo_swap]
    refine sumTo_congr _ _ _ (fun d hd => ?_)
    show sumTo (P + 1) (fun p => if d ≤ k ∧ half d ≤ p then cnt half r (k - d) (p - half d) else 0) = _
    by_cases hk : d ≤ k
    · rw [if_pos hk]
      by_cases hP : half d ≤ P
      · have e : P + 1 = half d + (P - half d + 1) := by omega
        rw [← cnt_sum r (k - d) (P - half d) (by simp only [sumH] at h; unfold half; omega), e, ← sumTo_shift (half d) (fun p => cnt half r (k - d) p)]
        refine sumTo_congr _ _ _ (fun p _ => ?_)
        show (if d ≤ k ∧ half d ≤ p then cnt half r (k - d) (p - half d) else 0) = if half d ≤ p then cnt half r (k - d) (p - half d) else 0
        by_cases hp : half d ≤ p
        · rw [if_pos ⟨hk, hp⟩, if_pos hp]
        · rw [if_neg (fun h => hp h.2), if_neg hp]
      · exfalso
        simp only [sumH] at h
        unfold half at hP
        omega
    · rw [if_neg hk]
      exact sumTo_zero _ _ (fun p _ => if_neg (fun h => hk h.1))
/-! ### a row and weights -/
def dot : List Int → (Nat → Nat) → Int
  | [], _ => 0
  | x :: v, g => x * (g 0 : Int) + dot v (fun j => g (j + 1))
theorem dot_set : ∀ (v : List Int) (j : Nat) (c : Int) (g : Nat → Nat) (h : j < v.length), dot (v.set j (v[j] + c)) g = dot v g + c * (g j : Int)
  | x :: v, 0, c, g, _ => by simp only [List.set_cons_zero, dot, List.getElem_cons_zero, Int.add_mul]; omega
  | x :: v, j + 1, c, g, h => by
    simp only [List.set_cons_succ, dot, List.getElem_cons_succ]
    rw [dot_set v j c (fun j => g (j + 1)) (by simpa using h)]; omega
theorem dot_congr : ∀ (v : List Int) (f g : Nat → Nat), (∀ j, j < v.length → f j = g j) → dot v f = dot v g
  | [], _, _, _ => rfl
  | x :: v, f, g, h => by
    simp only [dot]
    rw [h 0 (by simp), dot_congr v _ _ (fun j hj => h (j + 1) (by simpa using hj))]
theorem dot_snoc : ∀ (v : List Int) (x : Int) (g : Nat → Nat), dot (v ++ [x]) g = dot v g + x * (g v.length : Int)
  | [], x, g => by simp [dot]
  | y :: v, x, g => by
    simp only [List.cons_append, dot, List.length_cons]
    rw [dot_snoc v x]; omega
theorem dot_zeros : ∀ (n : Nat) (g : Nat → Nat), dot (List.replicate n 0) g = 0
  | 0, _ => rfl
  | n + 1, g => by
    simp only [List.replicate_succ, dot]
    rw [dot_zeros n]; simp
theorem dot_nonneg : ∀ (v : List Int) (g : Nat → Nat), (∀ x ∈ v, 0 ≤ x) → 0 ≤ dot v g
  | [], _, _ => Int.le_refl _
  | x :: v, g, h => by
    simp only [dot]
    have h1 := Int.mul_nonneg (h x (by simp)) (Int.natCast_nonneg (g 0))
    have h2 := dot_nonneg v (fun j => g (j + 1)) (fun y hy => h y (by simp [hy]))
    omega
theorem dot_one_le : ∀ (v : List Int) (j : Nat) (h : j < v.length), (∀ x ∈ v, 0 ≤ x) → v[j] ≤ dot v (fun _ => 1)
  | x :: v, 0, _, hp => by
    simp only [dot, List.getElem_cons_zero]
    have := dot_nonneg v (fun _ => 1) (fun y hy => hp y (by simp [hy])); omega
  | x :: v, j + 1, h, hp => by
    simp only [dot, List.getElem_cons_succ]
    have h1 := dot_one_le v j (by simpa using h) (fun y hy => hp y (by simp [hy]))
    have h2 := hp x (by simp); omega
/-- Only one place weighs. -/
theorem dot_last : ∀ (v : List Int) (x : Int) (g : Nat → Nat), (∀ j, j < v.length → g j = 0) → g v.length = 1 → dot (v ++ [x]) g = x := by
  intro v x g h0 h1
  rw [dot_snoc, h1, dot_congr v g (fun _ => 0) h0]
  have : ∀ v : List Int, dot v (fun _ => 0) = 0 := by
    intro v
    induction v with
    | nil => rfl
    | cons y v ih => simp only [dot]; rw [ih]; simp
  rw [this]; simp

end Go.Proofs.Ythcpjncbedpkdaa.Pure
