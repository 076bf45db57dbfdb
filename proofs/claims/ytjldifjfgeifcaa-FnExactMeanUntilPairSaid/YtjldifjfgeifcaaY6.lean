/- Plain lemmas over the printed functions of this seat. -/
import Derived.Test.YtjldifjfgeifcaaY4
import Derived.Test.YtjldifjfgeifcaaPx4
set_option linter.unusedVariables false
set_option linter.unusedSimpArgs false
namespace Go.Proofs.Ytjldifjfgeifcaa.Pure
open Go.RowKit Go.Proofs.Ytjldifjfgeifcaa.P Go.Proofs.YtjldifjfgeifcaaW.PrintWords Go.Proofs.YtjldifjfgeifcaaW.PrintLast Go.Proofs.YtjldifjfgeifcaaW.PrintMore

/-! ### until a pair: the mean -/
def chk16 (n k : Nat) : Bool :=
  match spec_chChoose.f 60 n k with
  | some a => decide (0 < a) && decide (a ≤ 12870) && decide (720720 % a = 0)
  | _ => false
set_option maxRecDepth 100000 in
theorem chk16_all : ((List.range 17).all fun n => (List.range (n + 1)).all fun k => chk16 n k) = true := by decide +kernel
/-- The choices of an i out of S, at most sixteen. -/
theorem choice16 (S : Nat) (h1 : S ≤ 16) (i : Nat) : ∃ c : Nat, (i ≤ S → 0 < c ∧ c ≤ 12870 ∧ c ∣ 720720) ∧ (S < i → c = 0) ∧ ∀ m, 60 ≤ m → spec_chChoose.f m S i = some (c : Int) ∧ impl_choose.f m S i = some (c : Int) := by
  obtain ⟨v, z0, z1, _, z3, z4, h⟩ := choose_ev (S : Int) (i : Int) (by omega) (by omega)
  refine ⟨v.toNat, fun hi => ?_, fun hi => by rw [z3 (by omega)]; rfl, fun m hm => by rw [Int.toNat_of_nonneg z0]; exact h m hm⟩
  have hc := List.all_eq_true.1 (List.all_eq_true.1 chk16_all S (List.mem_range.2 (by omega))) i (List.mem_range.2 (by omega))
  unfold chk16 at hc
  rw [(h 60 (by omega)).1] at hc
  simp only [Bool.and_eq_true, decide_eq_true_eq] at hc
  obtain ⟨⟨c1, c2⟩, c3⟩ := hc
  refine ⟨by omega, by omega, ?_⟩
  have : ((v.toNat : Nat) : Int) ∣ ((720720 : Nat) : Int) := by rw [Int.toNat_of_nonneg z0]; exact Int.dvd_of_emod_eq_zero c3
  exact Int.natCast_dvd_natCast.1 this
/-- One more place: lowest terms of x/y + d/c. -/
def nxt (c d : Nat) (p : Nat × Nat) : Nat × Nat := if c = 0 then p else ((p.1 * c + d * p.2) / Nat.gcd (p.1 * c + d * p.2) (p.2 * c), (p.2 * c) / Nat.gcd (p.1 * c + d * p.2) (p.2 * c))
def upto (c d : Nat → Nat) : Nat → Nat × Nat
  | 0 => (0, 1)
  | i + 1 => nxt (c i) (d i) (upto c d i)
structure Low (M B i : Nat) (p : Nat × Nat) : Prop where
  pos : 0 < p.2
  dvd : p.2 ∣ M
  cop : Nat.gcd p.1 p.2 = 1
  le : p.1 ≤ p.2 * (i * B)
theorem nxt_dvd (x y c d p q M : Nat) (hp : M = y * p) (hq : M = c * q) : y * c ∣ (x * c + d * y) * M := by
  refine ⟨x * p + d * q, ?_⟩
  rw [Nat.add_mul, Nat.mul_add]
  have a : x * c * M = y * c * (x * p) := by rw [hp]; ac_rfl
  have b : d * y * M = y * c * (d * q) := by rw [hq]; ac_rfl
  rw [a, b]
theorem nxt_le (x y c d i B : Nat) (h : x ≤ y * (i * B)) (hd : d ≤ B) (hc : 0 < c) : x * c + d * y ≤ y * c * ((i + 1) * B) := by
  have a : x * c ≤ y * (i * B) * c := Nat.mul_le_mul_right c h
  have b : d * y ≤ B * (y * c) := Nat.mul_le_mul hd (Nat.le_mul_of_pos_right y hc)
  have e1 : y * c * ((i + 1) * B) = y * (i * B) * c + B * (y * c) := by rw [Nat.add_mul, Nat.mul_add, Nat.one_mul]; ac_rfl
  omega
theorem nxt_low (M B i c d : Nat) (p : Nat × Nat) (h : Low M B i p) (hc : 0 < c → c ∣ M) (hd : d ≤ B) : Low M B (i + 1) (nxt c d p) := by
  obtain ⟨x, y⟩ := p
  obtain ⟨h1, h2, h3, h4⟩ := h
  simp only at h1 h2 h3 h4
  unfold nxt
  by_cases c0 : c = 0
  · rw [if_pos c0]
    exact ⟨h1, h2, h3, Nat.le_trans h4 (Nat.mul_le_mul_left _ (Nat.mul_le_mul_right _ (by omega)))⟩
  · rw [if_neg c0]
    simp only
    obtain ⟨p, hp⟩ := h2
    obtain ⟨q, hq⟩ := hc (by omega)
    have ed := nxt_dvd x y c d p q M hp hq
    have hle := nxt_le x y c d i B h4 hd (by omega)
    generalize hn : x * c + d * y = n at *
    generalize he : y * c = e at *
    have e0 : 0 < e := by rw [← he]; exact Nat.mul_pos h1 (by omega)
    have g0 : 0 < Nat.gcd n e := Nat.gcd_pos_of_pos_right n e0
    have ge := Nat.div_mul_cancel (Nat.gcd_dvd_right n e)
    have gn := Nat.div_mul_cancel (Nat.gcd_dvd_left n e)
    have cop : Nat.gcd (n / Nat.gcd n e) (e / Nat.gcd n e) = 1 := by
      rw [Nat.gcd_div (Nat.gcd_dvd_left n e) (Nat.gcd_dvd_right n e)]; exact Nat.div_self g0
    have gp : 0 < e / Nat.gcd n e := Nat.div_pos (Nat.le_of_dvd e0 (Nat.gcd_dvd_right n e)) g0
    generalize Nat.gcd n e = g at *
    generalize hn' : n / g = n' at *
    generalize he' : e / g = e' at *
    refine ⟨gp, ?_, cop, ?_⟩
    · have : g * e' ∣ g * (n' * M) := by
        rw [← Nat.mul_assoc, Nat.mul_comm g e', Nat.mul_comm g n', ge, gn]; exact ed
      have := Nat.dvd_of_mul_dvd_mul_left g0 this
      exact Nat.Coprime.dvd_of_dvd_mul_left (by unfold Nat.Coprime; rw [Nat.gcd_comm]; exact cop) this
    · have : g * n' ≤ g * (e' * ((i + 1) * B)) := by
        rw [← Nat.mul_assoc, Nat.mul_comm g e', Nat.mul_comm g n', ge, gn]; exact hle
      exact Nat.le_of_mul_le_mul_left this g0
theorem nxt_same (c : Nat) (p : Nat × Nat) (h : Nat.gcd p.1 p.2 = 1) : nxt c 0 p = p := by
  obtain ⟨x, y⟩ := p
  unfold nxt
  by_cases c0 : c = 0
  · rw [if_pos c0]
  · rw [if_neg c0]
    simp only [Nat.zero_mul, Nat.add_zero]
    rw [Nat.gcd_mul_right, h, Nat.one_mul, Nat.mul_div_cancel _ (by omega), Nat.mul_div_cancel _ (by omega)]
theorem upto_low (M B : Nat) (hM : 0 < M) (c d : Nat → Nat) (hc : ∀ i, 0 < c i → c i ∣ M) (hd : ∀ i, d i ≤ B) : ∀ i, Low M B i (upto c d i) := by
  intro i
  induction i with
  | zero => exact ⟨Nat.one_pos, ⟨M, (Nat.one_mul M).symm⟩, Nat.gcd_one_right 0, Nat.zero_le _⟩
  | succ i ih => exact nxt_low M B i _ _ _ ih (hc i) (hd i)
theorem upto_still (M B : Nat) (hM : 0 < M) (c d : Nat → Nat) (hc : ∀ i, 0 < c i → c i ∣ M) (hd : ∀ i, d i ≤ B) (a : Nat) (h : ∀ i, a ≤ i → c i = 0 ∨ d i = 0) : ∀ i, a ≤ i → upto c d i = upto c d a := by
  intro i hi
  induction i with
  | zero => obtain rfl : a = 0 := by omega
            rfl
  | succ i ih =>
    by_cases e : a = i + 1
    · subst e; rfl
    · rw [← ih (by omega)]
      show nxt (c i) (d i) (upto c d i) = _
      rcases h i (by omega) with h | h
      · unfold nxt; rw [if_pos h]
      · rw [h]; exact nxt_same _ _ (upto_low M B hM c d hc hd i).cop
/-- The numbers of one place stay small. -/
theorem low_bd (M B i c d C I : Nat) (p : Nat × Nat) (h : Low M B i p) (hM : 0 < M) (hi : i ≤ I) (hc : c ≤ C) (hd : d ≤ B) : p.1 * c ≤ M * (I * B) * C ∧ d * p.2 ≤ B * M ∧ p.2 * c ≤ M * C := by
  have hy : p.2 ≤ M := Nat.le_of_dvd hM h.dvd
  have hx : p.1 ≤ M * (I * B) := Nat.le_trans h.le (Nat.mul_le_mul hy (Nat.mul_le_mul_right _ hi))
  exact ⟨Nat.mul_le_mul hx hc, Nat.mul_le_mul hd hy, Nat.mul_le_mul hy hc⟩
@[irreducible] def big : Nat := 9275666400
theorem big_eq : big = 9275666400 := by unfold big; rfl
theorem nxt_ev (c d : Nat) (p : Nat × Nat) (i : Nat) (h : Low 720720 65536 i p) (hi : i ≤ 16) (c0 : 0 < c) (hc : c ≤ 12870) (hd : d ≤ 65536) (k : Nat) (hk : big < k) :
    spec_chLow.f k (wrap64 (wrap64 ((p.1 : Int) * c) + wrap64 ((d : Int) * p.2))) (wrap64 ((p.2 : Int) * c)) = some ((((nxt c d p).1 : Nat) : Int), (((nxt c d p).2 : Nat) : Int)) ∧
    impl_fraction.f k (wrap64 (wrap64 ((p.1 : Int) * c) + wrap64 ((d : Int) * p.2))) (wrap64 ((p.2 : Int) * c)) = some ((((nxt c d p).1 : Nat) : Int), (((nxt c d p).2 : Nat) : Int), true) := by
  obtain ⟨b1, b2, b3⟩ := low_bd 720720 65536 i c d 12870 16 p h (by decide) hi hc hd
  rw [show 720720 * (16 * 65536) * 12870 = 9726241171046400 from by decide +kernel] at b1
  rw [show 65536 * 720720 = 47233105920 from by decide +kernel] at b2
  rw [show 720720 * 12870 = 9275666400 from by decide +kernel] at b3
  have e0 : 0 < p.2 * c := Nat.mul_pos h.pos c0
  rw [← Int.natCast_mul, ← Int.natCast_mul, ← Int.natCast_mul]
  unfold nxt
  rw [if_neg (by omega)]
  generalize p.1 * c = A at *
  generalize d * p.2 = B at *
  generalize p.2 * c = C at *
  have eA : wrap64 ((A : Nat) : Int) = (A : Nat) := wrap_small (by omega) (by omega)
  have eB : wrap64 ((B : Nat) : Int) = (B : Nat) := wrap_small (by omega) (by omega)
  have eC : wrap64 ((C : Nat) : Int) = (C : Nat) := wrap_small (by omega) (by omega)
  have eAB : wrap64 ((A : Nat) + (B : Nat) : Int) = ((A + B : Nat) : Int) := by rw [wrap_small (by omega) (by omega)]; omega
  rw [eA, eB, eC, eAB]
  clear eA eB eC eAB h
  have c1 : C ≤ 9223372036854775807 := Nat.le_trans b3 (by omega)
  have c2 : A + B ≤ 9223372036854775807 := Nat.le_trans (Nat.add_le_add b1 b2) (by omega)
  have c3 : C < k := Nat.lt_of_le_of_lt (Nat.le_trans b3 (Nat.le_of_eq big_eq.symm)) hk
  have h9 := low_nat (A + B) C e0 c1 c2 k c3
  dsimp only
  exact h9

end Go.Proofs.Ytjldifjfgeifcaa.Pure
