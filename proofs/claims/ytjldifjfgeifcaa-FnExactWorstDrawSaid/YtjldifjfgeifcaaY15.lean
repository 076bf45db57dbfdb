/- Plain lemmas over the printed functions of this seat. -/
import Derived.Test.YtjldifjfgeifcaaY12
import Derived.Test.YtjldifjfgeifcaaPx12
set_option linter.unusedVariables false
set_option linter.unusedSimpArgs false
namespace Go.Proofs.Ytjldifjfgeifcaa.Pure
open Go.RowKit Go.Proofs.Ytjldifjfgeifcaa.P Go.Proofs.YtjldifjfgeifcaaW.PrintWords Go.Proofs.YtjldifjfgeifcaaW.PrintLast Go.Proofs.YtjldifjfgeifcaaW.PrintMore

theorem l1Least_eq (a b : Int) : spec_l1Least.f a b = some (mn a b) := by unfold spec_l1Least.f mn; split <;> split <;> first | rfl | (congr 1; omega)
theorem least_hit (P : Nat → Prop) (c : Nat) (h : P c) : ∃ c0, P c0 ∧ ∀ c, c < c0 → ¬ P c := by
  induction c using Nat.strongRecOn with
  | _ c ih =>
    by_cases hh : ∃ d, d < c ∧ P d
    · obtain ⟨d, hd, hp⟩ := hh
      exact ih d hd hp
    · exact ⟨c, h, fun d hd hp => hh ⟨d, hd, hp⟩⟩
/-- What one colour's number is: the least that still reaches the most. -/
def hit (f : Nat → Int) (n : Int) (q : Nat) (w : Int) (c : Nat) : Prop := (c : Int) ≤ n ∧ c / 2 ≤ q ∧ c + f (q - c / 2) = w
theorem hit_ex (l : List Int) (hl : l.length ≤ 1000) (hx : ∀ x ∈ l, 0 ≤ x ∧ x ≤ 20) (n : Int) (hn : 0 ≤ n ∧ n ≤ 20) (q : Nat) :
    (∃ c0, hit (W l) n q (W (n :: l) q) c0 ∧ ∀ c, c < c0 → ¬ hit (W l) n q (W (n :: l) q) c) ∧ ∀ c : Nat, (c : Int) ≤ n → c / 2 ≤ q → c + W l (q - c / 2) ≤ W (n :: l) q := by
  have hW := W_prop l hl hx
  obtain ⟨i1, i2, i3, i4⟩ := inner_prop (W l) n q (20 * l.length) (by omega) (fun j => ⟨(hW j).1, (hW j).2.1⟩) hn.2 22 0 0 (by omega) (by omega) (by omega) (by omega)
  have eW : W (n :: l) q = inner (W l) n q 22 0 0 := rfl
  rw [eW]
  generalize inner (W l) n q 22 0 0 = v at *
  refine ⟨?_, fun c a b => i4 c (by omega) a b⟩
  have h0 := i4 0 (by omega) (by omega) (by omega)
  have at' : ∃ c' : Nat, (c' : Int) ≤ n ∧ c' / 2 ≤ q ∧ c' + W l (q - c' / 2) = v := by
    rcases i3 with i3 | ⟨c, a, b, d⟩
    · refine ⟨0, by omega, by omega, ?_⟩
      have := (hW (q - 0 / 2)).1
      omega
    · exact ⟨c, a, b, d.symm⟩
  obtain ⟨c, h⟩ := at'
  exact least_hit _ c h
theorem lw1 {p : Nat} (hp : p ≤ 500) : wrap64 ((p : Int) + 1 - 1) = (p : Int) := by rw [wrap_small (by omega) (by omega)]; omega
theorem lw2 {p q : Nat} (hp : p ≤ 500) (hq : q ≤ p) : wrap64 ((p : Int) - ((p - q : Nat) : Int)) = (q : Int) := by rw [wrap_small (by omega) (by omega)]; omega
theorem lw4 {y : Nat} (hy : y ≤ 500) : wrap64 ((y : Int) + 1) = (y : Int) + 1 := wrap_small (by omega) (by omega)
theorem lw5 {x : Int} {c : Nat} (h0 : 0 ≤ x ∧ x ≤ 1000) (hc : c ≤ 1000) : wrap64 (x + (c : Int)) = x + c := wrap_small (by omega) (by omega)
theorem lw6 {x v : Int} {c : Nat} (h0 : 0 ≤ x ∧ x ≤ 1000) (hc : c ≤ 1000) (hv : 0 ≤ v ∧ v ≤ 1000) : wrap64 (x + (c : Int) + v) = x + c + v := wrap_small (by omega) (by omega)
theorem lw7 {p q h : Nat} (hp : p ≤ 500) (hq : q ≤ p) (hh : h ≤ q) : wrap64 (((p - q : Nat) : Int) + (h : Int)) = ((p - (q - h) : Nat) : Int) := by rw [wrap_small (by omega) (by omega)]; omega
theorem lw8 {q h : Nat} (hq : q ≤ 500) (hh : h ≤ 1000) : wrap64 ((q : Int) - (h : Int)) = (q : Int) - h := wrap_small (by omega) (by omega)
theorem lw9 {v : Int} {c : Nat} (hc : c ≤ 1000) (hv : 0 ≤ v ∧ v ≤ 1000) : wrap64 ((c : Int) + v) = c + v := wrap_small (by omega) (by omega)
theorem wd_spec (l : List Int) (hl : l.length ≤ 8) (hx : ∀ x ∈ l, 0 ≤ x ∧ x ≤ 20) (p : Nat) (hp : p ≤ 500) (i : Nat) (hi : i < l.length) (q : Nat) (hq : q ≤ p) (x8 w : Int) (h8 : 0 ≤ x8 ∧ x8 ≤ 1000) (hw : x8 + W (l.drop i) q = w) (x7 : List Int) (h7 : x7.length ≤ 8) (r : List Int × Bool) (c0 : Nat)
    (h0 : hit (W (l.drop (i + 1))) l[i] q (W (l.drop i) q) c0) (hm : ∀ c, c < c0 → ¬ hit (W (l.drop (i + 1))) l[i] q (W (l.drop i) q) c)
    (e : Ev (fun k => spec_WorstDraw.l0 k l ((p : Int) + 1) w (x7 ++ [(c0 : Int)]) (x8 + c0) (((p - (q - c0 / 2) : Nat) : Int)) l l.length ((i + 1 : Nat) : Int)) r) :
    ∀ (d c : Nat), c0 - c = d → c ≤ c0 → Ev (fun k => spec_WorstDraw.l1 k l ((p : Int) + 1) w x7 x8 ((p - q : Nat) : Int) i l[i] c l l.length i) r := by
  have hn := hx l[i] (List.getElem_mem hi)
  have hxd : ∀ x ∈ l.drop (i + 1), 0 ≤ x ∧ x ≤ 20 := fun x h => hx x (List.mem_of_mem_drop h)
  have hld : (l.drop (i + 1)).length ≤ 8 := by rw [List.length_drop]; omega
  obtain ⟨a1, a2, a3⟩ := h0
  have bl : l.length ≤ 9223372036854775807 := by omega
  have e1 : (0 : Int) ≤ ((i + 1 : Nat) : Int) := by omega
  have e2 : ((i + 1 : Nat) : Int) ≤ (l.length : Int) := by omega
  have hxl : x7.length < 17592186044416 := by omega
  have bq : q ≤ 9223372036854775807 := by omega
  have bc : (1000 : Nat) ≤ 9223372036854775807 := by omega
  have hld2 : (l.drop (i + 1)).length ≤ 1000 := by omega
  intro d
  induction d with
  | zero =>
    intro c hd hc
    obtain rfl : c = c0 := by omega
    have b9 : q - c / 2 ≤ 500 := by omega
    obtain ⟨K, hK⟩ := fewerW_ev (q - c / 2) (by omega) (l.drop (i + 1)) hld2 hxd
    have hW := W_prop (l.drop (i + 1)) hld2 hxd (q - c / 2)
    have bW : 0 ≤ W (l.drop (i + 1)) (q - c / 2) ∧ W (l.drop (i + 1)) (q - c / 2) ≤ 1000 := by omega
    have b1 : ((q - c / 2 : Nat) : Int) ≥ 0 := by omega
    have b4 : c ≤ 1000 := by omega
    have b7 : x8 + (c : Int) + W (l.drop (i + 1)) (q - c / 2) = w := by omega
    refine Ev.stepFrom e K (fun k hk => ?_)
    have hK := hK k hk
    simp only at hK
    simp only [spec_WorstDraw.l1]
    rw [if_pos a1, half_nat c b4, lw1 hp, lw2 hp hq, wrap_nsub a2 bq, if_pos b1, wrap_succ hi bl, if_pos e1, if_pos e2, Int.toNat_natCast, lw4 b9, hK, Option.bind_some, lw5 h8 b4, lw6 h8 b4 bW, if_pos b7, if_pos hxl, lw7 hp hq a2]
  | succ d ih =>
    intro c hd hc
    have ih' := ih (c + 1) (by omega) (by omega)
    have hc2 : c < c0 := by omega
    have hnot := hm c hc2
    have b0 : (c : Int) ≤ l[i] := by omega
    have b4 : c ≤ 1000 := by omega
    have b5 : c < 1000 := by omega
    by_cases h2 : c / 2 ≤ q
    · have b9 : q - c / 2 ≤ 500 := by omega
      obtain ⟨K, hK⟩ := fewerW_ev (q - c / 2) (by omega) (l.drop (i + 1)) hld2 hxd
      have hW := W_prop (l.drop (i + 1)) hld2 hxd (q - c / 2)
      have bW : 0 ≤ W (l.drop (i + 1)) (q - c / 2) ∧ W (l.drop (i + 1)) (q - c / 2) ≤ 1000 := by omega
      have hne : ¬ ((c : Int) + W (l.drop (i + 1)) (q - c / 2) = W (l.drop i) q) := fun h => hnot ⟨b0, h2, h⟩
      have w7 : ¬ (x8 + (c : Int) + W (l.drop (i + 1)) (q - c / 2) = w) := by omega
      have b1 : ((q - c / 2 : Nat) : Int) ≥ 0 := by omega
      refine Ev.stepFrom ih' K (fun k hk => ?_)
      have hK := hK k hk
      simp only at hK
      simp only [spec_WorstDraw.l1]
      rw [if_pos b0, half_nat c b4, lw1 hp, lw2 hp hq, wrap_nsub h2 bq, if_pos b1, wrap_succ hi bl, if_pos e1, if_pos e2, Int.toNat_natCast, lw4 b9, hK, Option.bind_some, lw5 h8 b4, lw6 h8 b4 bW, if_neg w7, wrap_succ b5 bc]
    · have b1 : ¬ ((q : Int) - ((c / 2 : Nat) : Int) ≥ 0) := by omega
      have b6 : c / 2 ≤ 1000 := by omega
      have b8 : q ≤ 500 := by omega
      refine Ev.step ih' (fun k => ?_)
      simp only [spec_WorstDraw.l1]
      rw [if_pos b0, half_nat c b4, lw1 hp, lw2 hp hq, lw8 b8 b6, if_neg b1, wrap_succ b5 bc]
theorem wd_impl (l : List Int) (hl : l.length ≤ 8) (hx : ∀ x ∈ l, 0 ≤ x ∧ x ≤ 20) (p : Nat) (hp : p ≤ 500) (T : List (List Int)) (hT : T.length = l.length + 1) (hTr : ∀ j, j ≤ l.length → rd_L1 T (j : Int) = mp (W (l.drop j)) (p + 1)) (i : Nat) (hi : i < l.length) (q : Nat) (hq : q ≤ p) (x7 : List Int) (h7 : x7.length ≤ 8) (r : List Int × Bool) (c0 : Nat)
    (h0 : hit (W (l.drop (i + 1))) l[i] q (W (l.drop i) q) c0) (hm : ∀ c, c < c0 → ¬ hit (W (l.drop (i + 1))) l[i] q (W (l.drop i) q) c) (hup : ∀ c : Nat, (c : Int) ≤ l[i] → c / 2 ≤ q → c + W (l.drop (i + 1)) (q - c / 2) ≤ W (l.drop i) q)
    (e : Ev (fun k => impl_WorstDraw.l0 k ((q - c0 / 2 : Nat) : Int) T (x7 ++ [(c0 : Int)]) l.length ((i + 1 : Nat) : Int)) r) :
    ∀ (d c : Nat), c0 - c = d → c ≤ c0 → Ev (fun k => impl_WorstDraw.l1 k q T x7 i c l.length i) r := by
  have hn := hx l[i] (List.getElem_mem hi)
  have hxd : ∀ x ∈ l.drop (i + 1), 0 ≤ x ∧ x ≤ 20 := fun x h => hx x (List.mem_of_mem_drop h)
  have hld : (l.drop (i + 1)).length ≤ 8 := by rw [List.length_drop]; omega
  obtain ⟨a1, a2, a3⟩ := h0
  have bl : l.length ≤ 9223372036854775807 := by omega
  have bq : q ≤ 9223372036854775807 := by omega
  have bc : (1000 : Nat) ≤ 9223372036854775807 := by omega
  have e1 : (0 : Int) ≤ ((i + 1 : Nat) : Int) := by omega
  have e2 : ((i + 1 : Nat) : Int) < ((l.length + 1 : Nat) : Int) := by omega
  have e3 : (0 : Int) ≤ (i : Int) := by omega
  have e4 : (i : Int) < ((l.length + 1 : Nat) : Int) := by omega
  have e5 : (0 : Int) ≤ (q : Int) := by omega
  have e6 : (q : Int) < ((p + 1 : Nat) : Int) := by omega
  have t0 := hTr i (by omega)
  have t1 := hTr (i + 1) (by omega)
  have hxl : x7.length < 17592186044416 := by omega
  have eq2 : q < p + 1 := by omega
  intro d
  induction d with
  | zero =>
    intro c hd hc
    obtain rfl : c = c0 := by omega
    have hW := W_prop (l.drop (i + 1)) (by omega) hxd (q - c / 2)
    have bW : 0 ≤ W (l.drop (i + 1)) (q - c / 2) ∧ W (l.drop (i + 1)) (q - c / 2) ≤ 1000 := by omega
    have b0 : ¬ (((c / 2 : Nat) : Int) > (q : Int)) := by omega
    have b1 : (0 : Int) ≤ ((q - c / 2 : Nat) : Int) := by omega
    have b2 : ((q - c / 2 : Nat) : Int) < ((p + 1 : Nat) : Int) := by omega
    have b3 : ¬ (W (l.drop i) q < W (l.drop i) q) := by omega
    have b4 : c ≤ 1000 := by omega
    have b5 : q - c / 2 < p + 1 := by omega
    refine Ev.step e (fun k => ?_)
    simp only [impl_WorstDraw.l1]
    rw [half_nat c b4, if_neg b0, wrap_succ hi bl, wrap_nsub a2 bq, t0, t1, mp_len, mp_len, hT, if_pos e1, if_pos e2, if_pos b1, if_pos b2, if_pos e3, if_pos e4, if_pos e5, if_pos e6, rd_mp _ _ _ b5, rd_mp _ _ _ eq2, lw9 b4 bW, a3, if_neg b3, if_pos hxl]
  | succ d ih =>
    intro c hd hc
    have ih' := ih (c + 1) (by omega) (by omega)
    have hc2 : c < c0 := by omega
    have hnot := hm c hc2
    have b0 : (c : Int) ≤ l[i] := by omega
    have b4 : c ≤ 1000 := by omega
    have b7 : c < 1000 := by omega
    by_cases h2 : c / 2 ≤ q
    · have hW := W_prop (l.drop (i + 1)) (by omega) hxd (q - c / 2)
      have hne : ¬ ((c : Int) + W (l.drop (i + 1)) (q - c / 2) = W (l.drop i) q) := fun h => hnot ⟨b0, h2, h⟩
      have hle := hup c b0 h2
      have bW : 0 ≤ W (l.drop (i + 1)) (q - c / 2) ∧ W (l.drop (i + 1)) (q - c / 2) ≤ 1000 := by omega
      have b0' : ¬ (((c / 2 : Nat) : Int) > (q : Int)) := by omega
      have b1 : (0 : Int) ≤ ((q - c / 2 : Nat) : Int) := by omega
      have b2 : ((q - c / 2 : Nat) : Int) < ((p + 1 : Nat) : Int) := by omega
      have b3 : (c : Int) + W (l.drop (i + 1)) (q - c / 2) < W (l.drop i) q := by omega
      have b5 : q - c / 2 < p + 1 := by omega
      refine Ev.step ih' (fun k => ?_)
      simp only [impl_WorstDraw.l1]
      rw [half_nat c b4, if_neg b0', wrap_succ hi bl, wrap_nsub h2 bq, t0, t1, mp_len, mp_len, hT, if_pos e1, if_pos e2, if_pos b1, if_pos b2, if_pos e3, if_pos e4, if_pos e5, if_pos e6, rd_mp _ _ _ b5, rd_mp _ _ _ eq2, lw9 b4 bW, if_pos b3, wrap_succ b7 bc]
    · have b0' : ((c / 2 : Nat) : Int) > (q : Int) := by omega
      refine Ev.step ih' (fun k => ?_)
      simp only [impl_WorstDraw.l1]
      rw [half_nat c b4, if_pos b0', wrap_succ b7 bc]
theorem wd_both (l : List Int) (hl : l.length ≤ 8) (hx : ∀ x ∈ l, 0 ≤ x ∧ x ≤ 20) (p : Nat) (hp : p ≤ 500) (T : List (List Int)) (hT : T.length = l.length + 1) (hTr : ∀ j, j ≤ l.length → rd_L1 T (j : Int) = mp (W (l.drop j)) (p + 1)) (w : Int) :
    ∀ (n i q : Nat) (x8 : Int) (x7 : List Int), l.length - i = n → i ≤ l.length → q ≤ p → 0 ≤ x8 → x8 ≤ 20 * i → x8 + W (l.drop i) q = w → x7.length = i → ∃ r : List Int, r.length = l.length ∧
      Ev (fun k => spec_WorstDraw.l0 k l ((p : Int) + 1) w x7 x8 ((p - q : Nat) : Int) l l.length i) (r, true) ∧ Ev (fun k => impl_WorstDraw.l0 k q T x7 l.length i) (r, true) := by
  intro n
  induction n with
  | zero =>
    intro i q x8 x7 hd hi hq h8 h8' hw h7
    obtain rfl : i = l.length := by omega
    refine ⟨x7, h7, Ev.now (fun k => ?_), Ev.now (fun k => ?_)⟩
    · simp only [spec_WorstDraw.l0]
      rw [if_neg (by omega)]
    · simp only [impl_WorstDraw.l0]
      rw [if_neg (by omega)]
  | succ n ih =>
    intro i q x8 x7 hd hi hq h8 h8' hw h7
    have hlt : i < l.length := by omega
    have hn := hx l[i] (List.getElem_mem hlt)
    have hxd : ∀ x ∈ l.drop (i + 1), 0 ≤ x ∧ x ≤ 20 := fun x h => hx x (List.mem_of_mem_drop h)
    obtain ⟨⟨c0, h0, hm⟩, hup⟩ := hit_ex (l.drop (i + 1)) (by rw [List.length_drop]; omega) hxd l[i] hn q
    rw [← List.drop_eq_getElem_cons hlt] at h0 hm hup
    obtain ⟨a1, a2, a3⟩ := id h0
    obtain ⟨r, hr, es, ei⟩ := ih (i + 1) (q - c0 / 2) (x8 + c0) (x7 ++ [(c0 : Int)]) (by omega) (by omega) (by omega) (by omega) (by omega) (by omega) (by simp [h7])
    have d0 : (0 : Int) ≤ (i : Int) := by omega
    have d1 : (i : Int) < (l.length : Int) := by omega
    refine ⟨r, hr, ?_, ?_⟩
    · have h := wd_spec l hl hx p hp i hlt q hq x8 w ⟨h8, by omega⟩ hw x7 (by omega) (r, true) c0 h0 hm es c0 0 (by omega) (by omega)
      refine Ev.step h (fun k => ?_)
      simp only [spec_WorstDraw.l0]
      rw [if_pos d1, if_pos d0, if_pos d1, rd_at l i hlt]
      rfl
    · have h := wd_impl l hl hx p hp T hT hTr i hlt q hq x7 (by omega) (r, true) c0 h0 hm hup ei c0 0 (by omega) (by omega)
      refine Ev.step h (fun k => ?_)
      simp only [impl_WorstDraw.l0]
      rw [if_pos d1]
      rfl
theorem WorstDraw_ev (l : List Int) (a : Int) (hl : l.length ≤ 1048576) (hwf : (Lit.int .i64 a).wf = true) : ∃ r K, r.1.length ≤ 1048576 ∧ ∀ k, K ≤ k → spec_WorstDraw.f k l a = some r ∧ impl_WorstDraw.f k l a = some r := by
  obtain ⟨K1, h1⟩ := soGood_ev l (by omega)
  obtain ⟨K2, h2⟩ := AreSocks_ev l (by omega)
  obtain ⟨K3, h3⟩ := soPairs_ev l (by omega)
  obtain ⟨K4, h4⟩ := pairsOf_ev l (by omega)
  by_cases hc : goodB l = true ∧ ¬ a < 1
  · obtain ⟨hg, ha⟩ := hc
    obtain ⟨g1, g2, g3, g4⟩ := goodB_iff.1 hg
    have hpp := prs_le l g3
    have ha2 : a ≤ 9223372036854775807 := by simp only [Lit.wf, Bool.and_eq_true, decide_eq_true_eq] at hwf; exact hwf.2
    have ep : wpairs 0 l = prs l := by
      rw [wpairs_small l 0 (by omega) (fun x hx => ⟨(g3 x hx).1, by have := (g3 x hx).2; omega⟩) (by omega)]; omega
    obtain ⟨p, hpp2⟩ : ∃ p : Nat, (p : Int) = min (a - 1) (prs l) := ⟨(min (a - 1) (prs l)).toNat, by omega⟩
    have w1 : wrap64 (prs l + 1) = prs l + 1 := wrap_small (by omega) (by omega)
    have m1 : mn a (prs l + 1) = (p : Int) + 1 := by unfold mn; omega
    have m2 : mn (wrap64 (a - 1)) (prs l) = (p : Int) := by
      rw [wrap_small (by omega) (by omega)]; unfold mn; omega
    obtain ⟨K5, h5⟩ := fewerW_ev p (by omega) l (by omega) g3
    obtain ⟨T, ⟨K6, h6⟩, t1, t2⟩ := worst_ev l p (by omega) (by omega) (fun x h => (g3 x h).2)
    obtain ⟨r, hr, ⟨K7, h7⟩, ⟨K8, h8⟩⟩ := wd_both l g2 g3 p (by omega) T t1 t2 (W l p) l.length 0 p 0 [] (by omega) (by omega) (by omega) (by omega) (by omega) (by rw [List.drop_zero]; omega) rfl
    refine ⟨(r, true), K1 + K2 + K3 + K4 + K5 + K6 + K7 + K8 + 1, by simp only; omega, fun k hk => ?_⟩
    obtain ⟨m, rfl⟩ : ∃ m, k = m + 1 := ⟨k - 1, by omega⟩
    have q1 := h1 (m + 1) (by omega)
    have q2 := h2 (m + 1) (by omega)
    have q3 := h3 m (by omega)
    have q4 := h4 m (by omega)
    have q5 := h5 m (by omega)
    have q6 := h6 m (by omega)
    have q7 := h7 m (by omega)
    have q8 := h8 m (by omega)
    simp only at q5 q6
    have z : (p - p : Nat) = 0 := by omega
    rw [z] at q7
    constructor
    · simp only [spec_WorstDraw.f]
      rw [q1, Option.bind_some, hg, if_pos rfl, decide_eq_false ha]
      simp only [spec_WorstDraw.j0]
      rw [if_neg Bool.false_ne_true, q3, Option.bind_some, ep, w1, l1Least_eq, m1, Option.bind_some, q5, Option.bind_some]
      exact q7
    · simp only [impl_WorstDraw.f]
      rw [q2, Option.bind_some, hg, if_pos rfl, decide_eq_false ha]
      simp only [impl_WorstDraw.j0]
      rw [if_neg Bool.false_ne_true, q4, Option.bind_some, ep, m2, q6, Option.bind_some]
      exact q8
  · refine ⟨([], false), K1 + K2 + 1, by simp, fun k hk => ?_⟩
    obtain ⟨m, rfl⟩ : ∃ m, k = m + 1 := ⟨k - 1, by omega⟩
    have q1 := h1 (m + 1) (by omega)
    have q2 := h2 (m + 1) (by omega)
    cases hg : goodB l with
    | false => simp [spec_WorstDraw.f, spec_WorstDraw.j0, impl_WorstDraw.f, impl_WorstDraw.j0, q1, q2, hg]
    | true =>
      have ha : a < 1 := by
        by_cases h : a < 1
        · exact h
        · exact absurd ⟨hg, h⟩ hc
      simp [spec_WorstDraw.f, spec_WorstDraw.j0, impl_WorstDraw.f, impl_WorstDraw.j0, q1, q2, hg, ha]

end Go.Proofs.Ytjldifjfgeifcaa.Pure
