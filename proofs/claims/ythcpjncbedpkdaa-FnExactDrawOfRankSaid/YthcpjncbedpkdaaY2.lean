/- Plain lemmas over the printed functions of this seat. -/
import Derived.Test.YthcpjncbedpkdaaY1
set_option linter.unusedVariables false
set_option linter.unusedSimpArgs false
namespace Go.Proofs.Ythcpjncbedpkdaa.Pure
open Go.RowKit Go.Proofs.Ythcpjncbedpkdaa.P Go.Proofs.YthcpjncbedpkdaaW.PrintWords Go.Proofs.YthcpjncbedpkdaaW.PrintLast Go.Proofs.YthcpjncbedpkdaaW.PrintMore

/-! ### the reference's count of draws -/
/-- What a place of the row weighs: how many draws of the colours from i on fill it up to M and P. -/
def wgt (f : Nat → Nat) (L : List Nat) (M P : Nat) : Nat → Nat := fun j => cnt f L (M - j / (P + 1)) (P - j % (P + 1))
theorem place_div (W x y : Nat) (h : y < W) : (x * W + y) / W = x := by
  rw [Nat.mul_comm, Nat.mul_add_div (by omega), Nat.div_eq_of_lt h, Nat.add_zero]
theorem place_mod (W x y : Nat) (h : y < W) : (x * W + y) % W = y := by
  rw [Nat.mul_comm, Nat.mul_add_mod, Nat.mod_eq_of_lt h]
theorem place_lt (W x y M : Nat) (hx : x ≤ M) (hy : y < W) : x * W + y < (M + 1) * W := by
  have : x * W ≤ M * W := Nat.mul_le_mul_right _ hx
  rw [Nat.add_mul, Nat.one_mul]; omega
/-- One number more of a colour. -/
def term_ (f : Nat → Nat) (L : List Nat) (K Q : Nat) : Nat → Nat := fun d => if d ≤ K ∧ f d ≤ Q then cnt f L (K - d) (Q - f d) else 0
theorem wgt_cons (f : Nat → Nat) (n : Nat) (L : List Nat) (M P j : Nat) : wgt f (n :: L) M P j = sumTo (n + 1) (term_ f L (M - j / (P + 1)) (P - j % (P + 1))) := rfl
theorem wgt_term (f : Nat → Nat) (L : List Nat) (M P h m d : Nat) (hd : d ≤ M - h) (hf : f d ≤ P - m) (hh : h ≤ M) (hm : m ≤ P) : wgt f L M P ((h + d) * (P + 1) + (m + f d)) = term_ f L (M - h) (P - m) d := by
  unfold wgt term_
  rw [place_div _ _ _ (by omega), place_mod _ _ _ (by omega), if_pos ⟨hd, hf⟩]
  congr 1 <;> omega
structure CtIn (M P : Nat) (pr : Int) (f : Nat → Nat) : Prop where
  M1 : M ≤ 1000
  P1 : P ≤ 1000
  how : (pr = -1 ∧ P = 0 ∧ f = none_) ∨ (pr = (P : Int) ∧ f = half)
structure RowIn (M P : Nat) (v : List Int) (c : Int) : Prop where
  len : v.length = (M + 1) * (P + 1)
  pos : ∀ x ∈ v, 0 ≤ x
  one : dot v (fun _ => 1) ≤ c
theorem CtIn.size {M P : Nat} {pr : Int} {f : Nat → Nat} (h : CtIn M P pr f) : (M + 1) * (P + 1) ≤ 1002001 := by
  have h1 := h.M1
  have h2 := h.P1
  calc (M + 1) * (P + 1) ≤ 1001 * 1001 := Nat.mul_le_mul (by omega) (by omega)
    _ = 1002001 := by decide
theorem set_pos {v : List Int} {j : Nat} {x : Int} (h : ∀ y ∈ v, 0 ≤ y) (hx : 0 ≤ x) : ∀ y ∈ v.set j x, 0 ≤ y := by
  intro y hy
  rcases List.mem_or_eq_of_mem_set hy with h1 | h1
  · exact h y h1
  · omega
theorem RowIn.put {M P : Nat} {v : List Int} {c x : Int} (h : RowIn M P v c) (hx : 0 ≤ x) (j : Nat) (hj : j < v.length) : RowIn M P (v.set j (v[j] + x)) (c + x) := by
  refine ⟨by rw [List.length_set]; exact h.len, set_pos h.pos ?_, ?_⟩
  · have := h.pos v[j] (List.getElem_mem hj); omega
  · rw [dot_set]
    have := h.one
    simp; omega
theorem wtd_ (n : Nat) (h : n ≤ 1000000) : wrap64 (Int.tdiv (n : Int) 2) = ((half n : Nat) : Int) := by
  rw [tdiv2]
  unfold wrap64 half
  omega
theorem least_id (x : Int) (h : x ≤ 1000000000000) : spec_l1Least.f x 1000000000001 = some x := by
  unfold spec_l1Least.f
  rw [if_pos (by omega)]
structure Bud (c ways : Int) (n : Nat) (B : Int) : Prop where
  le : c + ways * (n : Int) ≤ B
theorem Bud.now {c ways B : Int} {n : Nat} (h : Bud c ways n B) (hw : 0 ≤ ways) : c ≤ B := by
  have h1 := Int.mul_nonneg hw (Int.natCast_nonneg n)
  have h2 := h.le
  generalize ways * (n : Int) = z at h1 h2
  omega
theorem Bud.step {c ways B : Int} {n d : Nat} (h : Bud c ways (n + 1 - d) B) (hd : d ≤ n) : Bud (c + ways) ways (n + 1 - (d + 1)) B := by
  refine ⟨?_⟩
  have h1 := h.le
  obtain ⟨q, rfl⟩ : ∃ q, n = d + q := ⟨n - d, by omega⟩
  rw [show d + q + 1 - d = q + 1 by omega] at h1
  rw [show d + q + 1 - (d + 1) = q by omega]
  clear h
  rw [Int.natCast_add, Int.mul_add, show ((1 : Nat) : Int) = 1 from rfl, Int.mul_one] at h1
  generalize ways * (q : Int) = z at h1 ⊢
  omega
theorem lin4 {a b c d e : Int} (h : a + (b + c) = d + c + e) : a + b = d + e := by omega
theorem wadd_ (a b : Nat) (h : a + b ≤ 4000000000000) : wrap64 ((a : Int) + (b : Int)) = ((a + b : Nat) : Int) := by
  rw [wrap_small (by omega) (by omega)]; omega
theorem wadd1_ (a : Nat) (h : a ≤ 4000000000000) : wrap64 ((a : Int) + 1) = ((a + 1 : Nat) : Int) := by
  rw [wrap_small (by omega) (by omega)]; omega
theorem wmul_ (a b : Nat) (h : a * b ≤ 4000000000000) : wrap64 ((a : Int) * (b : Int)) = ((a * b : Nat) : Int) := by
  rw [← Int.natCast_mul]; exact wrap_small (by omega) (by omega)
theorem l2_step (M P : Nat) (pr : Int) (f : Nat → Nat) (hI : CtIn M P pr f) (L : List Nat) (S : List Int) (n i at_ : Nat) (v : List Int) (hn : n ≤ 20) (ways : Int) (hw0 : 0 ≤ ways) (h m : Nat) (hh : h ≤ M) (hm : m ≤ P) :
    ∀ (e d : Nat) (nx : List Int) (c : Int), n + 1 - d = e → d ≤ n + 1 → RowIn M P nx c → 0 ≤ c → ∀ B, Bud c ways (n + 1 - d) B → B ≤ 1000000000000 →
    ∃ nx', RowIn M P nx' B ∧ dot nx' (wgt f L M P) + ways * (sumTo d (term_ f L (M - h) (P - m)) : Int) = dot nx (wgt f L M P) + ways * (sumTo (n + 1) (term_ f L (M - h) (P - m)) : Int) ∧
      ∀ r, Ev (fun k => spec_soCounts.l1 k M pr ((P + 1 : Nat) : Int) n nx' S S.length i v v.length ((at_ + 1 : Nat) : Int)) r → at_ + 1 ≤ 2000000 → Ev (fun k => spec_soCounts.l2 k M pr ((P + 1 : Nat) : Int) n nx ways h m d S S.length i v v.length at_) r := by
  intro e
  induction e with
  | zero =>
    intro d nx c he hd hR hc0 B hb hB
    have hcB := hb.now hw0
    obtain rfl : d = n + 1 := by omega
    refine ⟨nx, ⟨hR.len, hR.pos, by have := hR.one; omega⟩, rfl, fun r hr hat => ?_⟩
    refine Ev.step (g := fun k => spec_soCounts.j3 k M pr ((P + 1 : Nat) : Int) n nx ways h m ((n + 1 : Nat) : Int) S S.length i v v.length at_ false) ?_ (fun k => ?_)
    · refine Ev.step hr (fun k => ?_)
      simp only [spec_soCounts.j3, Bool.false_eq_true, if_false]
      rw [wadd1_ _ (by omega)]
    · have q1 : ¬ (((n + 1 : Nat) : Int) ≤ (n : Int)) := by omega
      simp only [spec_soCounts.l2]
      rw [if_neg q1]
  | succ e ih =>
    intro d nx c he hd hR hc0 B hb hB
    have hcB := hb.now hw0
    have hdn : d ≤ n := by omega
    have h1 := hI.M1
    have h2 := hI.P1
    have hW := hI.size
    have hhd : h + d ≤ 4000000000000 := by omega
    have hd1 : d ≤ 4000000000000 := by omega
    by_cases hdM : h + d ≤ M
    · have hb2 := hb.step hdn
      have hcB2 := hb2.now hw0
      have hj3 : ∀ r, Ev (fun k => spec_soCounts.j3 k M pr ((P + 1 : Nat) : Int) n nx ways h m d S S.length i v v.length at_ true) r → Ev (fun k => spec_soCounts.l2 k M pr ((P + 1 : Nat) : Int) n nx ways h m d S S.length i v v.length at_) r := by
        intro r hr
        refine Ev.step hr (fun k => ?_)
        have q1 : (d : Int) ≤ (n : Int) := by omega
        have q2 : decide (((h + d : Nat) : Int) ≤ (M : Int)) = true := decide_eq_true (by omega)
        simp only [spec_soCounts.l2]
        rw [if_pos q1, wadd_ h d hhd, q2]
      by_cases hfd : m + f d ≤ P
      · -- one place more
        have hto : (h + d) * (P + 1) + (m + f d) < nx.length := by rw [hR.len]; exact place_lt _ _ _ _ hdM (by omega)
        have hget : 0 ≤ nx[(h + d) * (P + 1) + (m + f d)] := hR.pos _ (List.getElem_mem hto)
        have hle : nx[(h + d) * (P + 1) + (m + f d)] ≤ c := Int.le_trans (dot_one_le nx _ hto hR.pos) hR.one
        obtain ⟨nx', hR', hdot, hgo⟩ := ih (d + 1) _ (c + ways) (by omega) (by omega) (hR.put hw0 _ hto) (by omega) B hb2 hB
        refine ⟨nx', hR', ?_, fun r hr hat => hj3 r ?_⟩
        · rw [dot_set, wgt_term f L M P h m d (by omega) (by omega) hh hm] at hdot
          simp only [sumTo, Int.natCast_add, Int.mul_add] at hdot ⊢
          exact lin4 hdot
        · refine Ev.step (hgo r hr hat) (fun k => ?_)
          have hmul : (h + d) * (P + 1) + (m + f d) ≤ 4000000000000 := by
            have := place_lt (P + 1) (h + d) (m + f d) M hdM (by omega); omega
          have hmul2 : (h + d) * (P + 1) ≤ 4000000000000 := by omega
          have e5 : rd nx ((((h + d) * (P + 1) + (m + f d) : Nat)) : Int) = nx[(h + d) * (P + 1) + (m + f d)] := rd_at nx _ hto
          have e7 := least_id (nx[(h + d) * (P + 1) + (m + f d)] + ways) (by omega)
          have b0 : (0 : Int) ≤ (((h + d) * (P + 1) + (m + f d) : Nat) : Int) := Int.natCast_nonneg _
          have b1 : (((h + d) * (P + 1) + (m + f d) : Nat) : Int) < (nx.length : Int) := Int.ofNat_lt.2 hto
          have b2 : ((m + f d : Nat) : Int) < ((P + 1 : Nat) : Int) := by omega
          have b3 : -9223372036854775808 ≤ nx[(h + d) * (P + 1) + (m + f d)] + ways := by omega
          have b4 : nx[(h + d) * (P + 1) + (m + f d)] + ways ≤ 9223372036854775807 := by omega
          have b5 : m + f d ≤ 4000000000000 := by omega
          have b6 : d ≤ 1000000 := by omega
          have b7 : (m : Int) < ((P + 1 : Nat) : Int) := by omega
          have e6 : wrap64 (nx[(h + d) * (P + 1) + (m + f d)] + ways) = nx[(h + d) * (P + 1) + (m + f d)] + ways := wrap_small b3 b4
          simp only [spec_soCounts.j3, if_true]
          rcases hI.how with ⟨hp, hP, hf⟩ | ⟨hp, hf⟩
          · have hfd0 : m = m + f d := by rw [hf]; rfl
            have hpn : ¬ (pr ≥ 0) := by rw [hp]; decide
            have e4 : wrap64 ((((h + d) * (P + 1) : Nat) : Int) + (m : Int)) = (((h + d) * (P + 1) + (m + f d) : Nat) : Int) := by
              rw [← hfd0]; exact wadd_ _ _ (by rw [hfd0]; exact hmul)
            rw [if_neg hpn, if_pos b7, wadd_ h d hhd, wmul_ _ _ hmul2, e4, if_pos b0, if_pos b1, e5, e6, e7, Option.bind_some, wadd1_ d hd1, Int.toNat_natCast]
          · have e8 : wrap64 (Int.tdiv (d : Int) 2) = ((f d : Nat) : Int) := by rw [hf]; exact wtd_ d b6
            have hpn : pr ≥ 0 := by rw [hp]; exact Int.natCast_nonneg _
            rw [if_pos hpn, e8, wadd_ m (f d) b5, if_pos b2, wadd_ h d hhd, wmul_ _ _ hmul2, wadd_ _ _ hmul, if_pos b0, if_pos b1, e5, e6, e7, Option.bind_some, wadd1_ d hd1, Int.toNat_natCast]
      · -- too many pairs
        have ht : term_ f L (M - h) (P - m) d = 0 := if_neg (fun h => hfd (by omega))
        have hfp : f d ≤ 20 := by
          rcases hI.how with ⟨_, _, hf⟩ | ⟨_, hf⟩
          · rw [hf]; unfold none_; omega
          · rw [hf]; unfold half; omega
        have hR2 : RowIn M P nx (c + ways) := ⟨hR.len, hR.pos, by have := hR.one; omega⟩
        obtain ⟨nx', hR', hdot, hgo⟩ := ih (d + 1) nx (c + ways) (by omega) (by omega) hR2 (by omega) B hb2 hB
        refine ⟨nx', hR', ?_, fun r hr hat => hj3 r ?_⟩
        · rw [← hdot]; simp only [sumTo, ht, Nat.add_zero]
        · refine Ev.step (hgo r hr hat) (fun k => ?_)
          have b5 : m + f d ≤ 4000000000000 := by omega
          have b6 : d ≤ 1000000 := by omega
          have b2 : ¬ (((m + f d : Nat) : Int) < ((P + 1 : Nat) : Int)) := by omega
          simp only [spec_soCounts.j3, if_true]
          rcases hI.how with ⟨hp, hP, hf⟩ | ⟨hp, hf⟩
          · exfalso
            rw [hf] at hfd; unfold none_ at hfd; omega
          · have e8 : wrap64 (Int.tdiv (d : Int) 2) = ((f d : Nat) : Int) := by rw [hf]; exact wtd_ d b6
            have hpn : pr ≥ 0 := by rw [hp]; exact Int.natCast_nonneg _
            rw [if_pos hpn, e8, wadd_ m (f d) b5, if_neg b2, wadd1_ d hd1]
    · -- too many socks
      have hz : sumTo (n + 1) (term_ f L (M - h) (P - m)) = sumTo d (term_ f L (M - h) (P - m)) := sumTo_more _ _ _ hd (fun x hx _ => if_neg (fun h => by omega))
      refine ⟨nx, ⟨hR.len, hR.pos, by have := hR.one; omega⟩, by rw [hz], fun r hr hat => ?_⟩
      refine Ev.step (g := fun k => spec_soCounts.j3 k M pr ((P + 1 : Nat) : Int) n nx ways h m d S S.length i v v.length at_ false) ?_ (fun k => ?_)
      · refine Ev.step hr (fun k => ?_)
        simp only [spec_soCounts.j3, Bool.false_eq_true, if_false]
        rw [wadd1_ _ (by omega)]
      · have q1 : (d : Int) ≤ (n : Int) := by omega
        have q2 : decide (((h + d : Nat) : Int) ≤ (M : Int)) = false := decide_eq_false (by omega)
        simp only [spec_soCounts.l2]
        rw [if_pos q1, wadd_ h d hhd, q2]

theorem wnat_ (a : Nat) (h : a ≤ 4000000000000) : wrap64 (a : Int) = (a : Int) := wrap_small (by omega) (by omega)
theorem dot_take (v : List Int) (j : Nat) (h : j < v.length) (g : Nat → Nat) : dot (v.take (j + 1)) g = dot (v.take j) g + v[j] * (g j : Int) := by
  have e : v.take (j + 1) = v.take j ++ [v[j]] := by
    rw [List.take_add_one, List.getElem?_eq_getElem h]; rfl
  rw [e, dot_snoc, List.length_take, Nat.min_eq_left (by omega)]
theorem dot_take_le : ∀ (v : List Int) (j : Nat), (∀ x ∈ v, 0 ≤ x) → dot (v.take j) (fun _ => 1) ≤ dot v (fun _ => 1)
  | [], j, _ => by simp
  | x :: v, 0, h => dot_nonneg _ _ h
  | x :: v, j + 1, h => by
    simp only [List.take_succ_cons, dot]
    have := dot_take_le v j (fun y hy => h y (by simp [hy])); omega
theorem l1_step (M P : Nat) (pr : Int) (f : Nat → Nat) (hI : CtIn M P pr f) (L : List Nat) (S : List Int) (n i : Nat) (hn : n ≤ 20) (hi : i + 1 ≤ 2000000) (v : List Int) (C : Int) (hC : 21 * C ≤ 1000000000000) (hv : RowIn M P v C) :
    ∀ (e at_ : Nat) (nx : List Int), v.length - at_ = e → at_ ≤ v.length → RowIn M P nx (21 * dot (v.take at_) (fun _ => 1)) → dot nx (wgt f L M P) = dot (v.take at_) (wgt f (n :: L) M P) →
    ∃ nx', RowIn M P nx' (21 * C) ∧ dot nx' (wgt f L M P) = dot v (wgt f (n :: L) M P) ∧
      ∀ r, Ev (fun k => spec_soCounts.l0 k M pr ((P + 1 : Nat) : Int) nx' S S.length ((i + 1 : Nat) : Int)) r → Ev (fun k => spec_soCounts.l1 k M pr ((P + 1 : Nat) : Int) n nx S S.length i v v.length at_) r := by
  have hsz := hI.size
  have hlen := hv.len
  intro e
  induction e with
  | zero =>
    intro at_ nx he hat hR hd
    obtain rfl : at_ = v.length := by omega
    rw [List.take_length] at hR hd
    have hone := hv.one
    refine ⟨nx, ⟨hR.len, hR.pos, by have := hR.one; omega⟩, hd, fun r hr => ?_⟩
    refine Ev.step hr (fun k => ?_)
    have q1 : ¬ ((v.length : Int) < (v.length : Int)) := by omega
    simp only [spec_soCounts.l1]
    rw [if_neg q1, wadd1_ i (by omega)]
  | succ e ih =>
    intro at_ nx he hat hR hd
    have hlt : at_ < v.length := by omega
    have q0 : (0 : Int) ≤ (at_ : Int) := by omega
    have q1 : (at_ : Int) < (v.length : Int) := by omega
    have hx0 : 0 ≤ v[at_] := hv.pos _ (List.getElem_mem hlt)
    have e1 := dot_take v at_ hlt (fun _ => 1)
    have e2 := dot_take v at_ hlt (wgt f (n :: L) M P)
    have hle := dot_take_le v (at_ + 1) hv.pos
    have hone := hv.one
    have hat2 : at_ + 1 ≤ 2000000 := by omega
    have hd0 := dot_nonneg (v.take at_) (fun _ => 1) (fun x hx => hv.pos x (List.mem_of_mem_take hx))
    simp only [Int.natCast_one, Int.mul_one] at e1
    by_cases hz : v[at_] = 0
    · have hR2 : RowIn M P nx (21 * dot (v.take (at_ + 1)) (fun _ => 1)) := ⟨hR.len, hR.pos, by have := hR.one; omega⟩
      obtain ⟨nx', hR', hdot, hgo⟩ := ih (at_ + 1) nx (by omega) (by omega) hR2 (by rw [hd, e2, hz]; simp)
      refine ⟨nx', hR', hdot, fun r hr => Ev.step (hgo r hr) (fun k => ?_)⟩
      simp only [spec_soCounts.l1]
      rw [if_pos q1, if_pos q0, if_pos q1, rd_at v at_ hlt, if_pos hz, wadd1_ at_ (by omega)]
    · have hW : at_ / (P + 1) ≤ M := by
        have h1 : at_ < (P + 1) * (M + 1) := by rw [Nat.mul_comm]; omega
        have := Nat.div_lt_of_lt_mul h1
        omega
      have hm : at_ % (P + 1) ≤ P := by
        have := Nat.mod_lt at_ (show 0 < P + 1 by omega); omega
      have hbud : Bud (21 * dot (v.take at_) (fun _ => 1)) v[at_] (n + 1 - 0) (21 * dot (v.take (at_ + 1)) (fun _ => 1)) := by
        refine ⟨?_⟩
        have h3 : v[at_] * ((n + 1 - 0 : Nat) : Int) ≤ v[at_] * 21 := Int.mul_le_mul_of_nonneg_left (by omega) hx0
        generalize v[at_] * ((n + 1 - 0 : Nat) : Int) = z at h3 ⊢
        omega
      obtain ⟨nx2, hR2, hdot2, hgo2⟩ := l2_step M P pr f hI L S n i at_ v hn v[at_] hx0 (at_ / (P + 1)) (at_ % (P + 1)) hW hm (n + 1) 0 nx _ rfl (by omega) hR (by omega) _ hbud (by omega)
      obtain ⟨nx', hR', hdot, hgo⟩ := ih (at_ + 1) nx2 (by omega) (by omega) hR2 (by
        rw [e2, ← hd, wgt_cons]
        simp only [sumTo, Int.natCast_zero, Int.mul_zero, Int.add_zero] at hdot2 ⊢
        exact hdot2)
      refine ⟨nx', hR', hdot, fun r hr => Ev.step (hgo2 r (hgo r hr) hat2) (fun k => ?_)⟩
      have hP0 : ¬ (((P + 1 : Nat) : Int) = 0) := by omega
      have t3 := wnat_ (at_ / (P + 1)) (by have := hI.M1; omega)
      have t1 : Int.tdiv (at_ : Int) ((P + 1 : Nat) : Int) = ((at_ / (P + 1) : Nat) : Int) := rfl
      have t2 : Int.tmod (at_ : Int) ((P + 1 : Nat) : Int) = ((at_ % (P + 1) : Nat) : Int) := rfl
      simp only [spec_soCounts.l1]
      rw [if_pos q1, if_pos q0, if_pos q1, rd_at v at_ hlt, if_neg hz, if_neg hP0, t1, t2, t3]
      rfl
theorem row_zeros (M P : Nat) : RowIn M P (List.replicate ((M + 1) * (P + 1)) 0) 0 := by
  refine ⟨List.length_replicate, fun x hx => ?_, by rw [dot_zeros]; omega⟩
  have := List.eq_of_mem_replicate hx; omega
theorem l0_step (M P : Nat) (pr : Int) (f : Nat → Nat) (hI : CtIn M P pr f) (S : List Int) (hS : GoodL S) :
    ∀ (e i : Nat) (v : List Int), S.length - i = e → i ≤ S.length → RowIn M P v ((21 ^ i : Nat) : Int) →
    Ev (fun k => spec_soCounts.l0 k M pr ((P + 1 : Nat) : Int) v S S.length i) (dot v (wgt f (restN S i) M P)) := by
  have hsz := hI.size
  have hl8 := hS.1
  intro e
  induction e with
  | zero =>
    intro i v he hi hR
    obtain rfl : i = S.length := by omega
    have hlast : M * (P + 1) + P < v.length := by rw [hR.len, Nat.add_mul, Nat.one_mul]; omega
    have hlen : v.length = M * (P + 1) + P + 1 := by rw [hR.len, Nat.add_mul, Nat.one_mul]; omega
    have hval : dot v (wgt f (restN S S.length) M P) = v[M * (P + 1) + P] := by
      have e1 : v = v.take (M * (P + 1) + P) ++ [v[M * (P + 1) + P]] := by
        conv => lhs; rw [← List.take_length (l := v), hlen, List.take_add_one, List.getElem?_eq_getElem hlast]
        rfl
      have e2 : restN S S.length = [] := by unfold restN; rw [List.drop_eq_nil_of_le (Nat.le_refl _)]; rfl
      rw [e2]
      conv => lhs; rw [e1]
      have hl : (v.take (M * (P + 1) + P)).length = M * (P + 1) + P := by rw [List.length_take]; omega
      refine dot_last _ _ _ (fun j hj => ?_) ?_
      · rw [hl] at hj
        unfold wgt
        simp only [cnt]
        refine if_neg (fun h => ?_)
        have hdm := Nat.div_add_mod j (P + 1)
        have hm := Nat.mod_lt j (show 0 < P + 1 by omega)
        have h1 : M ≤ j / (P + 1) := by omega
        have h2 : (P + 1) * M ≤ (P + 1) * (j / (P + 1)) := Nat.mul_le_mul_left _ h1
        rw [Nat.mul_comm (P + 1) M] at h2
        omega
      · rw [hl]
        unfold wgt
        rw [place_div _ _ _ (by omega), place_mod _ _ _ (by omega)]
        simp [cnt]
    rw [hval]
    refine ⟨1, fun k hk => ?_⟩
    obtain ⟨k, rfl⟩ : ∃ j, k = j + 1 := ⟨k - 1, by omega⟩
    have q1 : ¬ ((S.length : Int) < (S.length : Int)) := by omega
    have hmost : spec_l1Most.f pr 0 = some (P : Int) := by
      unfold spec_l1Most.f
      rcases hI.how with ⟨hp, hP, _⟩ | ⟨hp, _⟩
      · rw [hp, hP]; rfl
      · rw [hp]
        by_cases h0 : (P : Int) > 0
        · rw [if_pos h0]
        · rw [if_neg h0]; congr 1; omega
    have b1 : M * (P + 1) + P ≤ 4000000000000 := by have := hR.len; omega
    have b2 : M * (P + 1) ≤ 4000000000000 := by omega
    have b3 : (0 : Int) ≤ ((M * (P + 1) + P : Nat) : Int) := Int.natCast_nonneg _
    have b4 : ((M * (P + 1) + P : Nat) : Int) < (v.length : Int) := Int.ofNat_lt.2 hlast
    show spec_soCounts.l0 (k + 1) M pr ((P + 1 : Nat) : Int) v S S.length (S.length : Nat) = _
    simp only [spec_soCounts.l0]
    rw [if_neg q1, hmost, Option.bind_some, wmul_ _ _ b2, wadd_ _ _ b1, if_pos b3, if_pos b4, rd_at v _ hlast]
  | succ e ih =>
    intro i v he hi hR
    have hlt : i < S.length := by omega
    have hmem := hS.2 S[i] (List.getElem_mem hlt)
    obtain ⟨n, hn⟩ : ∃ n : Nat, S[i] = (n : Int) := ⟨S[i].toNat, by omega⟩
    have hn20 : n ≤ 20 := by omega
    have hrest : restN S i = n :: restN S (i + 1) := by
      unfold restN; rw [List.drop_eq_getElem_cons hlt, List.map_cons, hn]; rfl
    have hpow : 21 ^ (i + 1) ≤ 37822859361 := pow_le8 (i + 1) (by omega)
    have hps : ((21 ^ (i + 1) : Nat) : Int) = 21 * ((21 ^ i : Nat) : Int) := by rw [Nat.pow_succ, Int.natCast_mul]; omega
    have hC : 21 * ((21 ^ i : Nat) : Int) ≤ 1000000000000 := by rw [← hps]; omega
    obtain ⟨v', hR', hdot, hgo⟩ := l1_step M P pr f hI (restN S (i + 1)) S n i hn20 (by omega) v _ hC hR v.length 0 (List.replicate v.length 0) (by omega) (by omega)
      (by rw [hR.len]; simpa [dot] using row_zeros M P) (by rw [dot_zeros]; simp [dot])
    rw [← hps] at hR'
    have h2 := ih (i + 1) v' (by omega) (by omega) hR'
    rw [hrest, ← hdot]
    have q0 : (0 : Int) ≤ (i : Int) := by omega
    have q1 : (i : Int) < (S.length : Int) := by omega
    have q2 : (0 : Int) ≤ (v.length : Int) := by omega
    have q3 : ((v.length : Int)).toNat ≤ 35184372088832 := by rw [Int.toNat_natCast, hR.len]; omega
    refine Ev.step (hgo _ h2) (fun k => ?_)
    simp only [spec_soCounts.l0]
    rw [if_pos q1, if_pos q0, if_pos q1, if_pos q2, if_pos q3, rd_at S i hlt, hn, Int.toNat_natCast]
    rfl
/-- The reference's count is the count. -/
theorem soCounts_ev (S : List Int) (hS : GoodL S) (M P : Nat) (pr : Int) (f : Nat → Nat) (hI : CtIn M P pr f) : Ev (fun k => spec_soCounts.f k S M pr) (cnt f (restN S 0) M P : Int) := by
  have hsz := hI.size
  have hpos : 0 < (M + 1) * (P + 1) := Nat.mul_pos (by omega) (by omega)
  have hR : RowIn M P ((List.replicate ((M + 1) * (P + 1)) (0 : Int)).set 0 1) ((21 ^ 0 : Nat) : Int) := by
    have := (row_zeros M P).put (x := 1) (by omega) 0 (by rw [List.length_replicate]; exact hpos)
    simpa using this
  have h := l0_step M P pr f hI S hS S.length 0 _ (by omega) (by omega) hR
  have hd : dot ((List.replicate ((M + 1) * (P + 1)) (0 : Int)).set 0 1) (wgt f (restN S 0) M P) = (cnt f (restN S 0) M P : Int) := by
    have := dot_set (List.replicate ((M + 1) * (P + 1)) (0 : Int)) 0 1 (wgt f (restN S 0) M P) (by rw [List.length_replicate]; exact hpos)
    rw [dot_zeros, List.getElem_replicate] at this
    have e0 : ((0 : Int) + 1) = 1 := rfl
    rw [e0] at this
    rw [this]
    simp [wgt]
  rw [hd] at h
  obtain ⟨K, hK⟩ := h
  refine ⟨K, fun k hk => ?_⟩
  have hmost : spec_l1Most.f pr 0 = some (P : Int) := by
    unfold spec_l1Most.f
    rcases hI.how with ⟨hp, hP, _⟩ | ⟨hp, _⟩
    · rw [hp, hP]; rfl
    · rw [hp]
      by_cases h0 : (P : Int) > 0
      · rw [if_pos h0]
      · rw [if_neg h0]; congr 1; omega
  have b1 : M ≤ 4000000000000 := by have := hI.M1; omega
  have b2 : P ≤ 4000000000000 := by have := hI.P1; omega
  have b3 : (M + 1) * (P + 1) ≤ 4000000000000 := by omega
  have b4 : (0 : Int) ≤ (((M + 1) * (P + 1) : Nat) : Int) := Int.natCast_nonneg _
  have b5 : ((((M + 1) * (P + 1) : Nat) : Int)).toNat ≤ 35184372088832 := by rw [Int.toNat_natCast]; omega
  have b6 : (0 : Int) < (((List.replicate ((M + 1) * (P + 1)) (0 : Int)).length : Nat) : Int) := by rw [List.length_replicate]; omega
  show spec_soCounts.f k S M pr = _
  unfold spec_soCounts.f
  rw [hmost, Option.bind_some, wadd1_ M b1, wadd1_ P b2, wmul_ _ _ b3, if_pos b4, if_pos b5, Option.bind_some, Int.toNat_natCast, if_pos b6]
  exact hK k hk

end Go.Proofs.Ythcpjncbedpkdaa.Pure
