/- Plain lemmas over the printed functions of this seat. -/
import Derived.Test.YtjldifjfgeifcaaDoorY0
set_option linter.unusedVariables false
set_option linter.unusedSimpArgs false
namespace Go.Proofs.YtjldifjfgeifcaaDoor.Pure
open Go.RowKit Go.Proofs.YtjldifjfgeifcaaDoor.P Go.Proofs.YtjldifjfgeifcaaDoorW.PrintWords Go.Proofs.YtjldifjfgeifcaaDoorW.PrintLast Go.Proofs.YtjldifjfgeifcaaDoorW.PrintMore

/-! ### the texts of numbers -/
theorem itoa_all : ∀ n : Fin 21, spec_l1Num.f 2 ((n.val : Nat) : Int) = some (itoaT n.val) := by decide +kernel
theorem l1Num_ev (x : Int) (h : 0 ≤ x ∧ x ≤ 20) : ∀ k, 2 ≤ k → spec_l1Num.f k x = some (itoaT x.toNat) := by
  obtain ⟨n, rfl⟩ := Int.eq_ofNat_of_zero_le h.1
  have h2 := itoa_all ⟨n, by omega⟩
  rw [Int.toNat_natCast]
  intro k hk
  induction k with
  | zero => omega
  | succ k ih =>
    by_cases hk2 : k + 1 = 2
    · rw [hk2]; exact h2
    · exact spec_l1Num.mono_l k _ _ (ih (by omega))
theorem Itoa_eq (x : Int) (h : 0 ≤ x ∧ x ≤ 20) : strconv_Itoa.f x = some (itoaT x.toNat) := if_pos h
theorem itoaT_size (n : Nat) : (itoaT n).size ≤ 2 := by
  unfold itoaT
  split
  · show (1 : Nat) ≤ 2; omega
  · show (2 : Nat) ≤ 2; omega

/-! ### the text of socks -/
def txt (l : List Int) : List ByteArray := l.map fun x => itoaT x.toNat
/-- What stands after i numbers. -/
def accF (l : List Int) : Nat → ByteArray
  | 0 => ⟨#[]⟩
  | i + 1 => if 0 < i then (accF l i ++ (⟨#[45]⟩ : ByteArray)) ++ itoaT (l.getD i 0).toNat else accF l i ++ itoaT (l.getD i 0).toNat
theorem accF_size (l : List Int) : ∀ i, (accF l i).size ≤ 3 * i
  | 0 => Nat.le_refl _
  | i + 1 => by
    have h1 := accF_size l i
    have h2 := itoaT_size (l.getD i 0).toNat
    have h3 : (⟨#[45]⟩ : ByteArray).size = 1 := rfl
    unfold accF
    split
    · rw [ByteArray.size_append, ByteArray.size_append, h3]; omega
    · rw [ByteArray.size_append]; omega
theorem data_app (x y : ByteArray) : (x ++ y).data.toList = x.data.toList ++ y.data.toList := by
  rw [ByteArray.data_append, Array.toList_append]
theorem txt_at (l : List Int) (i : Nat) (h : i < l.length) : (txt l)[i]? = some (itoaT (l.getD i 0).toNat) := by
  simp [txt, h]
theorem accF_join (l : List Int) : ∀ i, i ≤ l.length → (accF l i).data.toList = Lib.join (((txt l).take i).map (·.data.toList)) [45]
  | 0, _ => rfl
  | 1, h => by
    have e : (txt l).take 1 = [itoaT (l.getD 0 0).toNat] := by
      cases l with
      | nil => simp at h
      | cons x l => simp [txt]
    rw [e, List.map_cons, List.map_nil, Lib.join_one]
    show (accF l 0 ++ itoaT (l.getD 0 0).toNat).data.toList = _
    rw [data_app]
    rfl
  | i + 2, h => by
    have ih := accF_join l (i + 1) (by omega)
    cases ht : txt l with
    | nil =>
      have : (txt l).length = l.length := by simp [txt]
      rw [ht] at this
      simp at this; omega
    | cons x r =>
      have hr : r[i]? = some (itoaT (l.getD (i + 1) 0).toNat) := by
        have := txt_at l (i + 1) (by omega)
        rw [ht] at this
        simpa using this
      rw [ht] at ih
      have e : accF l (i + 2) = (accF l (i + 1) ++ (⟨#[45]⟩ : ByteArray)) ++ itoaT (l.getD (i + 1) 0).toNat := if_pos (by omega)
      rw [e, data_app, data_app, ih]
      simp only [List.take_succ_cons, List.map_cons, Lib.join_cons]
      have hm : (r.map (·.data.toList))[i]? = some (itoaT (l.getD (i + 1) 0).toNat).data.toList := by
        rw [List.getElem?_map, hr]; rfl
      have := Lib.joinTail_take_succ [45] (r.map (·.data.toList)) i _ hm
      rw [List.map_take, List.map_take, this]
      simp only [List.append_assoc]
theorem joinT_acc (l : List Int) : joinT (txt l) (⟨#[45]⟩ : ByteArray) = accF l l.length := by
  have h := accF_join l l.length (Nat.le_refl _)
  rw [List.take_of_length_le (by simp [txt])] at h
  unfold joinT
  have e : (⟨#[45]⟩ : ByteArray).data.toList = [45] := rfl
  rw [e, ← h]
theorem soText_l (l : List Int) (hl : l.length ≤ 8) (h1 : ∀ x ∈ l, 0 ≤ x ∧ x ≤ 20) : ∀ (n i : Nat), l.length - i = n → i ≤ l.length → Ev (fun k => spec_soText.l0 k (accF l i) l l.length i) (accF l l.length) := by
  intro n
  induction n with
  | zero =>
    intro i hn hi
    obtain rfl : i = l.length := by omega
    have q1 : ¬ ((l.length : Int) < (l.length : Int)) := by omega
    refine Ev.now (fun k => ?_)
    simp only [spec_soText.l0]
    rw [if_neg q1]
  | succ n ih =>
    intro i hn hi
    have hlt : i < l.length := by omega
    have q0 : (0 : Int) ≤ (i : Int) := by omega
    have q1 : (i : Int) < (l.length : Int) := by omega
    have a1 := h1 l[i] (List.getElem_mem hlt)
    have s1 := itoaT_size l[i].toNat
    have s2 := accF_size l i
    have z1 : (⟨#[45]⟩ : ByteArray).size = 1 := rfl
    have hg : l.getD i 0 = l[i] := by simp [hlt]
    have hi8 : i < l.length ∧ l.length ≤ 9223372036854775807 := by omega
    refine Ev.stepFrom (ih (i + 1) (by omega) (by omega)) 2 (fun k hk => ?_)
    simp only [spec_soText.l0]
    by_cases h0 : 0 < i
    · have q2 : (i : Int) > 0 := by omega
      have p1 : (accF l i).size + 1 ≤ 9223372036854775807 := by omega
      have p2 : (accF l i ++ (⟨#[45]⟩ : ByteArray)).size + (itoaT l[i].toNat).size ≤ 9223372036854775807 := by rw [ByteArray.size_append, z1]; omega
      have e : accF l (i + 1) = (accF l i ++ (⟨#[45]⟩ : ByteArray)) ++ itoaT l[i].toNat := by rw [← hg]; exact if_pos h0
      rw [if_pos q1, if_pos q0, if_pos q1, if_pos q2, if_pos p1, rd_at l i hlt, l1Num_ev _ a1 k hk, Option.bind_some, if_pos p2, wrap_succ hi8.1 hi8.2, e]
    · have q2 : ¬ ((i : Int) > 0) := by omega
      have p2 : (accF l i).size + (itoaT l[i].toNat).size ≤ 9223372036854775807 := by omega
      have e : accF l (i + 1) = accF l i ++ itoaT l[i].toNat := by rw [← hg]; exact if_neg h0
      rw [if_pos q1, if_pos q0, if_pos q1, if_neg q2, rd_at l i hlt, l1Num_ev _ a1 k hk, Option.bind_some, if_pos p2, wrap_succ hi8.1 hi8.2, e]
theorem joined_l (l : List Int) (hl : l.length ≤ 8) (h1 : ∀ x ∈ l, 0 ≤ x ∧ x ≤ 20) : ∀ (n i : Nat), l.length - i = n → i ≤ l.length → Ev (fun k => impl_joined.l0 k (⟨#[45]⟩ : ByteArray) ((txt l).take i) l l.length i) (accF l l.length) := by
  have hj : strings_Join.f (txt l) (⟨#[45]⟩ : ByteArray) = some (accF l l.length) := by
    have hs := accF_size l l.length
    have hd := accF_join l l.length (Nat.le_refl _)
    rw [List.take_of_length_le (by simp [txt])] at hd
    have e : (⟨#[45]⟩ : ByteArray).data.toList = [45] := rfl
    have hz : (accF l l.length).data.size = (accF l l.length).size := rfl
    have hc : (txt l).length ≤ 1000 ∧ (Lib.join ((txt l).map (·.data.toList)) (⟨#[45]⟩ : ByteArray).data.toList).length ≤ 100000 := by
      refine ⟨by simp only [txt, List.length_map]; omega, ?_⟩
      rw [e, ← hd, Array.length_toList, hz]
      omega
    unfold strings_Join.f
    rw [if_pos hc, joinT_acc]
  intro n
  induction n with
  | zero =>
    intro i hn hi
    obtain rfl : i = l.length := by omega
    have q1 : ¬ ((l.length : Int) < (l.length : Int)) := by omega
    refine Ev.now (fun k => ?_)
    simp only [impl_joined.l0]
    rw [if_neg q1, List.take_of_length_le (by simp [txt]), hj, Option.bind_some]
  | succ n ih =>
    intro i hn hi
    have hlt : i < l.length := by omega
    have q0 : (0 : Int) ≤ (i : Int) := by omega
    have q1 : (i : Int) < (l.length : Int) := by omega
    have a1 := h1 l[i] (List.getElem_mem hlt)
    have hi8 : i < l.length ∧ l.length ≤ 9223372036854775807 := by omega
    have p1 : ((txt l).take i).length < 8796093022208 := by rw [List.length_take]; omega
    have e : (txt l).take (i + 1) = (txt l).take i ++ [itoaT l[i].toNat] := by
      rw [List.take_add_one, txt_at l i hlt]
      simp [hlt]
    refine Ev.step (ih (i + 1) (by omega) (by omega)) (fun k => ?_)
    simp only [impl_joined.l0]
    rw [if_pos q1, if_pos q0, if_pos q1, rd_at l i hlt, Itoa_eq _ a1, Option.bind_some, if_pos p1, wrap_succ hi8.1 hi8.2, e]
theorem SocksText_ev (l : List Int) (hl : l.length ≤ 1048576) : ∃ v K, ∀ k, K ≤ k → spec_SocksText.f k l = some v ∧ impl_SocksText.f k l = some v := by
  obtain ⟨K1, h1⟩ := soGood_ev l (by omega)
  obtain ⟨K2, h2⟩ := AreSocks_ev l (by omega)
  cases hg : goodB l with
  | false =>
    rw [hg] at h1 h2
    refine ⟨((⟨#[]⟩ : ByteArray), false), K1 + K2, fun k hk => ?_⟩
    simp (disch := omega) only [spec_SocksText.f, impl_SocksText.f, h1, h2, Option.bind_some, Bool.false_eq_true, if_false, and_self]
  | true =>
    rw [hg] at h1 h2
    obtain ⟨_, b1, b2, _⟩ := goodB_iff.1 hg
    obtain ⟨K3, h3⟩ := soText_l l b1 b2 l.length 0 (by omega) (by omega)
    obtain ⟨K4, h4⟩ := joined_l l b1 b2 l.length 0 (by omega) (by omega)
    refine ⟨(accF l l.length, true), K1 + K2 + K3 + K4, fun k hk => ?_⟩
    have e3 : spec_soText.f k l = some (accF l l.length) := h3 k (by omega)
    have e4 : impl_joined.f k l (⟨#[45]⟩ : ByteArray) = some (accF l l.length) := h4 k (by omega)
    simp (disch := omega) only [spec_SocksText.f, impl_SocksText.f, h1, h2, Option.bind_some, if_true, e3, e4, and_self]

end Go.Proofs.YtjldifjfgeifcaaDoor.Pure
