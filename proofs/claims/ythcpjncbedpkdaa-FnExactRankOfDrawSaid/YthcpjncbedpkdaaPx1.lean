-- written for this claim by the session's own program (wip/xprint)
import Derived.Test.YthcpjncbedpkdaaPx0
namespace Go.Proofs.Ythcpjncbedpkdaa.P
open Go.RowKit Go.Proofs.YthcpjncbedpkdaaW.PrintWords Go.Proofs.YthcpjncbedpkdaaW.PrintLast Go.Proofs.YthcpjncbedpkdaaW.PrintMore
attribute [local go_sem] max2_int min2_int max_two min_two max_three min_three max_four min_four   -- for this text's walks alone
set_option linter.unusedVariables false
set_option linter.unusedSimpArgs false

/-! ### impl_total: function 21 -/
def impl_total.l0 : Nat → Int → List Int → Int → Int → Option (Int)
 | 0, _, _, _, _ => none
 | k + 1, x3, x6, x7, x8 => if x8 < x7 then (if 0 ≤ x8 then (if x8 < (x6.length : Int) then (impl_total.l0 k (wrap64 (x3 + (rd x6 x8))) x6 x7 (wrap64 (x8 + 1))) else (none)) else (none)) else (some x3)
def impl_total.f (k : Nat) (l0 : List Int) : Option (Int) := impl_total.l0 k 0 l0 (l0.length : Int) 0
theorem impl_total.mono_l : ∀ k, (∀ y0 y1 y2 y3, LeO (impl_total.l0 k y0 y1 y2 y3) (impl_total.l0 (k + 1) y0 y1 y2 y3))
 | 0 => fun _ _ _ _ r h => by simp [impl_total.l0] at h
 | k + 1 => by
  have ih0 := impl_total.mono_l k
  ·intro y0 y1 y2 y3
   unfold impl_total.l0
   repeat' first
   | (with_reducible exact ih0 _ _ _ _)
   | (with_reducible exact LeO.refl _)
   | (with_reducible exact LeO.none _)
   | (with_reducible refine LeO.ite ?_ ?_)
   | (with_reducible refine LeO.bind ?_ (fun _ => ?_))
   | exact ih0 _ _ _ _
   | exact LeO.none _
   | refine LeO.ite ?_ ?_
   | refine LeO.bind ?_ (fun _ => ?_)
theorem impl_total.mono : ∀ a0 k, LeO (impl_total.f k a0) (impl_total.f (k + 1) a0) := by
 intro a0 k
 have ih0 := impl_total.mono_l k
 unfold impl_total.f
 repeat' first
   | (with_reducible exact ih0 _ _ _ _)
   | (with_reducible exact LeO.refl _)
   | (with_reducible exact LeO.none _)
   | (with_reducible refine LeO.ite ?_ ?_)
   | (with_reducible refine LeO.bind ?_ (fun _ => ?_))
   | exact ih0 _ _ _ _
   | exact LeO.none _
   | refine LeO.ite ?_ ?_
   | refine LeO.bind ?_ (fun _ => ?_)
set_option maxHeartbeats 8000000 in
set_option maxRecDepth 100000 in
theorem impl_total.calls (k : Nat) (A0 : Option Addr) (c0 : Nat) (l0 : List Int) (r : Int) (w : World) (hr0 : Kd.C (Kd.int .i64) w A0 l0.length l0) (hc0 : l0.length ≤ c0) (h : impl_total.f k l0 = some r) :
  Calls Try.prog 21 #[.slice A0 l0.length c0] w fun e w' => e = .returned (.int .i64 r) ∧ Drawn0 w w' := by
 have HR0 := Aside0.mk hr0
 have HC0 := Aside0.mk hc0
 clear hr0 hc0
 have H : (impl_total.l0 k 0 l0 (l0.length : Int) 0) = some r := h
 clear h
 have H' := Aside0.mk H
 clear H
 go_enter Try.func21, Try.ntmps21
 go_wp2
 go_loopg [3, 8] k (fun kq v3 v8 w' => ∃ (x3_1 : Int) (x8_1 : Int), v3 = .int .i64 x3_1 ∧ v8 = .int .i64 x8_1 ∧ Aside0 (impl_total.l0 kq x3_1 l0 (l0.length : Int) x8_1 = some r) ∧ Aside0 (kq ≤ k) ∧ Drawn0 w w')
 case atStart => exact ⟨(0), (0), (by first | rfl | (simp; done) | (simp [*]; done) | (simp [Go.IntWalk.i64_left]; done)), (by first | rfl | (simp; done) | (simp [*]; done) | (simp [Go.IntWalk.i64_left]; done)), H', ⟨Nat.le_refl _⟩, by repeat (first | exact Drawn0.refl _ | apply Drawn0.step)⟩
 case round =>
  clear H'
  obtain ⟨x3_1, x8_1, rfl, rfl, HA, HK1, ⟨m1, rfl⟩⟩ := hrel
  cases gk with
  | zero => exact absurd HA.1 (by simp [impl_total.l0])
  | succ k1 =>
   have H := HA.1
   clear HA
   simp only [impl_total.l0] at H
   by_cases c2 : x8_1 < (l0.length : Int)
   ·rw [if_pos c2] at H
    have c2b0 : decide (x8_1 < (l0.length : Int)) = true := decide_eq_true c2
    clear c2
    by_cases c3 : 0 ≤ x8_1
    ·rw [if_pos c3] at H
     have c3b0 : decide (0 ≤ x8_1) = true := decide_eq_true c3
     clear c3
     by_cases c4 : x8_1 < (l0.length : Int)
     ·rw [if_pos c4] at H
      have c4b0 : decide (x8_1 < (l0.length : Int)) = true := decide_eq_true c4
      clear c4
      have H' := Aside0.mk H
      clear H
      have p101 : 0 ≤ (x8_1 : Int) := of_decide_eq_true (by first | (with_reducible assumption) | assumption)
      have q101 : x8_1 < (l0.length : Int) := of_decide_eq_true (by first | (with_reducible assumption) | assumption)
      obtain ⟨ad101, e101, hx101_0⟩ := Kd.at_int HR0.1 x8_1 p101 q101
      cases e101
      replace p101 := eq_true p101
      replace q101 := eq_true q101
      go_wp2
      go_roundg k1
      case measure => have := HK1.1; omega
      case rel => exact ⟨(wrap64 (x3_1 + (rd l0 x8_1))), (wrap64 (x8_1 + 1)), (by first | rfl | (simp; done) | (simp [*]; done) | (simp [Go.IntWalk.i64_left]; done)), (by first | rfl | (simp; done) | (simp [*]; done) | (simp [Go.IntWalk.i64_left]; done)), H', ⟨by have := HK1.1; omega⟩, by repeat (first | exact Drawn0.refl _ | apply Drawn0.step)⟩
     ·rw [if_neg c4] at H
      exact absurd H (by simp)
    ·rw [if_neg c3] at H
     exact absurd H (by simp)
   ·rw [if_neg c2] at H
    have c2b0 : decide (x8_1 < (l0.length : Int)) = false := decide_eq_false c2
    clear c2
    obtain rfl := Option.some.inj H
    go_wp2
    go_ret
    exact ⟨by first | rfl | (simp; done) | (simp [*]; done) | (simp [Go.IntWalk.i64_left]; done), by repeat (first | exact Drawn0.refl _ | apply Drawn0.step)⟩

/-! ### impl_within: function 31 -/
def impl_within.f (a0 : Int) (a1 : Int) (a2 : Int) : Option (Bool) := if a1 ≤ a0 then (some (decide (a0 ≤ a2))) else (some false)
set_option maxHeartbeats 8000000 in
set_option maxRecDepth 100000 in
theorem impl_within.calls (a0 : Int) (a1 : Int) (a2 : Int) (r : Bool) (w : World) (h : impl_within.f a0 a1 a2 = some r) :
  Calls Try.prog 31 #[.int .i64 a0, .int .i64 a1, .int .i64 a2] w fun e w' => e = .returned (.bool r) ∧ Drawn0 w w' := by
 have H : (if a1 ≤ a0 then (some (decide (a0 ≤ a2))) else (some false)) = some r := h
 clear h
 by_cases c4 : a1 ≤ a0
 ·rw [if_pos c4] at H
  have c4b0 : decide (a1 ≤ a0) = true := decide_eq_true c4
  clear c4
  obtain rfl := Option.some.inj H
  go_enter Try.func31, Try.ntmps31
  go_wp2
  go_ret
  exact ⟨by first | rfl | (simp; done) | (simp [*]; done) | (simp [Go.IntWalk.i64_left]; done), by repeat (first | exact Drawn0.refl _ | apply Drawn0.step)⟩
 ·rw [if_neg c4] at H
  have c4b0 : decide (a1 ≤ a0) = false := decide_eq_false c4
  clear c4
  obtain rfl := Option.some.inj H
  go_enter Try.func31, Try.ntmps31
  go_wp2
  go_ret
  exact ⟨by first | rfl | (simp; done) | (simp [*]; done) | (simp [Go.IntWalk.i64_left]; done), by repeat (first | exact Drawn0.refl _ | apply Drawn0.step)⟩

/-! ### impl_areWithin: function 32 -/
def xInB (lo hi x : Int) : Bool := decide (lo ≤ x) && decide (x ≤ hi)
theorem xInB_f (x lo hi : Int) : impl_within.f x lo hi = some (xInB lo hi x) := by
  unfold impl_within.f xInB
  by_cases h : lo ≤ x <;> simp [h]

theorem xAreWithin1 (x lo hi : Int) (b1 b2 : Nat) (w : World) (h1 : w.cell? ⟨b1, 0, none⟩ = some (.int .i64 lo)) (h2 : w.cell? ⟨b2, 0, none⟩ = some (.int .i64 hi)) :
    Calls Try.prog 42 #[.int .i64 x, .pointer (some ⟨b1, 0, none⟩), .pointer (some ⟨b2, 0, none⟩)] w fun e w' => e = .returned (.bool (!xInB lo hi x)) ∧ Drawn0 w w' := by
  go_enter Try.func42, Try.ntmps42
  go_wp2_with (go_at_call 31; refine (impl_within.calls x lo hi _ _ (xInB_f x lo hi)).mono ?_; rintro e w' ⟨rfl, ⟨nd, rfl⟩⟩)
  go_ret
  exact ⟨rfl, by repeat (first | exact Drawn0.refl _ | apply Drawn0.step)⟩

/-- From place i on: is one out of bounds? -/
def xOut (lo hi : Int) (l : List Int) (i : Nat) : Bool := (l.drop i).any fun x => !xInB lo hi x
theorem xOut_end (lo hi : Int) (l : List Int) (i : Nat) (h : l.length ≤ i) : xOut lo hi l i = false := by
  unfold xOut; rw [List.drop_eq_nil_of_le h]; rfl
theorem xOut_step (lo hi : Int) (l : List Int) (i : Nat) (h : i < l.length) : xOut lo hi l i = (!xInB lo hi (rd l (i : Int)) || xOut lo hi l (i + 1)) := by
  unfold xOut
  rw [List.drop_eq_getElem_cons h, List.any_cons]
  simp [rd, List.getD_eq_getElem?_getD, h]

def xIdxPost (lo hi : Int) (l : List Int) (w : World) (e : Ending) (w' : World) : Prop :=
  ∃ r : Int, e = .returned (.int .i64 r) ∧ Aside0 (decide (0 ≤ r) = xOut lo hi l 0) ∧ Drawn0 w w'

set_option maxHeartbeats 2000000 in
set_option maxRecDepth 100000 in
theorem xIndexFunc (A0 : Option Addr) (c0 : Nat) (l0 : List Int) (lo hi : Int) (b1 b2 : Nat) (w : World) (hr0 : Kd.C (Kd.int .i64) w A0 l0.length l0) (hc0 : l0.length ≤ c0)
    (h1 : w.cell? ⟨b1, 0, none⟩ = some (.int .i64 lo)) (h2 : w.cell? ⟨b2, 0, none⟩ = some (.int .i64 hi)) :
    Calls Try.prog 44 #[.slice A0 l0.length c0, .func (.func 42) #[] #[.pointer (some ⟨b1, 0, none⟩), .pointer (some ⟨b2, 0, none⟩)]] w (xIdxPost lo hi l0 w) := by
  have hn := Kd.C_max hr0
  have HR0 := Aside0.mk hr0
  clear hr0
  have H1 := Aside0.mk h1
  have H2 := Aside0.mk h2
  clear h1 h2
  go_enter Try.func44, Try.ntmps44
  go_wp2
  go_loopw [8] (fun i w' => ∃ k : Nat, k ≤ l0.length ∧ i = .int .i64 k ∧ Aside0 (xOut lo hi l0 0 = xOut lo hi l0 k) ∧ Drawn0 w w') (fun i _ => l0.length - (intOf i).toNat)
  case atStart => exact ⟨0, Nat.zero_le _, rfl, ⟨rfl⟩, Drawn0.refl _⟩
  case round =>
    obtain ⟨k, hk, rfl, HO, ⟨m, rfl⟩⟩ := hrel
    by_cases hlt : k < l0.length
    · have hs := xOut_step lo hi l0 k hlt
      have HS := Aside0.mk hs
      clear hs
      obtain ⟨ad, rfl, hx0⟩ := Kd.at_int HR0.out (k : Int) (by omega) (by omega)
      have hx : w.cell? (ad.add k) = some (.int .i64 (rd l0 k)) := hx0
      clear hx0
      cases hb : xInB lo hi (rd l0 (k : Int)) with
      | true =>
        have HB := Aside0.mk hb
        go_wp2_with (go_at_call 42; refine (xAreWithin1 _ lo hi b1 b2 _ (by simpa using H1.out) (by simpa using H2.out)).mono ?_; rw [HB.out]; rintro e w' ⟨rfl, ⟨nd, rfl⟩⟩)
        go_roundw
        case rel => exact ⟨k + 1, by omega, by go_num, ⟨by rw [HO.out, HS.out, HB.out]; rfl⟩, by repeat (first | exact Drawn0.refl _ | apply Drawn0.step)⟩
        case measure => simp [intOf]; omega
      | false =>
        have HB := Aside0.mk hb
        go_wp2_with (go_at_call 42; refine (xAreWithin1 _ lo hi b1 b2 _ (by simpa using H1.out) (by simpa using H2.out)).mono ?_; rw [HB.out]; rintro e w' ⟨rfl, ⟨nd, rfl⟩⟩)
        go_ret
        exact ⟨(k : Int), rfl, ⟨by rw [HO.out, HS.out, HB.out]; simp⟩, by repeat (first | exact Drawn0.refl _ | apply Drawn0.step)⟩
    · have HE := Aside0.mk (xOut_end lo hi l0 k (by omega))
      go_wp2
      go_ret
      exact ⟨-1, rfl, ⟨by rw [HO.out, HE.out]; rfl⟩, by repeat (first | exact Drawn0.refl _ | apply Drawn0.step)⟩

def xContPost (b : Bool) (w : World) (e : Ending) (w' : World) : Prop := e = .returned (.bool b) ∧ Drawn0 w w'
set_option maxHeartbeats 2000000 in
set_option maxRecDepth 100000 in
theorem xContainsFunc (A0 : Option Addr) (c0 : Nat) (l0 : List Int) (lo hi : Int) (b1 b2 : Nat) (w : World) (hr0 : Kd.C (Kd.int .i64) w A0 l0.length l0) (hc0 : l0.length ≤ c0)
    (h1 : w.cell? ⟨b1, 0, none⟩ = some (.int .i64 lo)) (h2 : w.cell? ⟨b2, 0, none⟩ = some (.int .i64 hi)) :
    Calls Try.prog 41 #[.slice A0 l0.length c0, .func (.func 42) #[] #[.pointer (some ⟨b1, 0, none⟩), .pointer (some ⟨b2, 0, none⟩)]] w fun e w' => e = .returned (.bool (xOut lo hi l0 0)) ∧ Drawn0 w w' := by
  have HI := fun W hr k1 k2 => xIndexFunc A0 c0 l0 lo hi b1 b2 W hr hc0 k1 k2
  have HR0 := Aside0.mk hr0
  clear hr0
  have H1 := Aside0.mk h1
  have H2 := Aside0.mk h2
  clear h1 h2
  go_enter Try.func41, Try.ntmps41
  go_wp2_with (go_at_call 44; refine (HI _ HR0.out H1.out H2.out).mono ?_; rintro e w' ⟨r, rfl, HD, ⟨nd, rfl⟩⟩)
  go_ret
  exact ⟨by rw [← HD.out]; rfl, by repeat (first | exact Drawn0.refl _ | apply Drawn0.step)⟩

/-- Are all within? -/
def impl_areWithin.f (l0 : List Int) (a1 : Int) (a2 : Int) : Option (Bool) := some (!xOut a1 a2 l0 0)
set_option maxHeartbeats 2000000 in
set_option maxRecDepth 100000 in
theorem impl_areWithin.calls (A0 : Option Addr) (c0 : Nat) (l0 : List Int) (a1 : Int) (a2 : Int) (r : Bool) (w : World) (hr0 : Kd.C (Kd.int .i64) w A0 l0.length l0) (hc0 : l0.length ≤ c0) (h : impl_areWithin.f l0 a1 a2 = some r) :
    Calls Try.prog 32 #[.slice A0 l0.length c0, .int .i64 a1, .int .i64 a2] w fun e w' => e = .returned (.bool r) ∧ Below w.heap.size w w' := by
  obtain rfl := Option.some.inj h
  clear h
  have HC := fun W hr k1 k2 => xContainsFunc A0 c0 l0 a1 a2 w.heap.size (w.heap.size + 1) W hr hc0 k1 k2
  have hmf : ∀ (fn : Fn) (first cap : Array Value) (w : World), (Instr.makeFunc fn first cap).run Try.prog w = .ok (.func fn first cap) w := fun _ _ _ _ => rfl
  have HR0 := Aside0.mk hr0
  clear hr0
  go_enter Try.func32, Try.ntmps32
  go_wp2_with (go_at_call 41; refine (HC _ (Kd.C_alloc (Kd.C_alloc HR0.out _) _) (by simp) (by simp)).mono ?_; rintro e w' ⟨rfl, ⟨nd, rfl⟩⟩)
  go_ret
  exact ⟨rfl, pw_below_drewN (below_alloc (below_alloc (Below.refl _ _) _) _) _⟩


/-! ### impl_AreSocks: function 20 -/
def impl_AreSocks.f (k : Nat) (l0 : List Int) : Option (Bool) := (impl_within.f (l0.length : Int) 1 8).bind fun t102 => (if t102 = true then ((impl_areWithin.f l0 0 20).bind fun t103 => (if t103 = true then ((impl_total.f k l0).bind fun t104 => (some (decide (t104 > 0)))) else (some false))) else (some false))
theorem impl_AreSocks.mono : ∀ a0 k, LeO (impl_AreSocks.f k a0) (impl_AreSocks.f (k + 1) a0) := by
 intro a0 k
 unfold impl_AreSocks.f
 repeat' first
   | (with_reducible exact impl_total.mono _ _)
   | (with_reducible exact LeO.refl _)
   | (with_reducible exact LeO.none _)
   | (with_reducible refine LeO.ite ?_ ?_)
   | (with_reducible refine LeO.bind ?_ (fun _ => ?_))
   | exact impl_total.mono _ _
   | exact LeO.none _
   | refine LeO.ite ?_ ?_
   | refine LeO.bind ?_ (fun _ => ?_)
set_option maxHeartbeats 8000000 in
set_option maxRecDepth 100000 in
theorem impl_AreSocks.calls (k : Nat) (A0 : Option Addr) (c0 : Nat) (l0 : List Int) (r : Bool) (w : World) (hr0 : Kd.C (Kd.int .i64) w A0 l0.length l0) (hc0 : l0.length ≤ c0) (h : impl_AreSocks.f k l0 = some r) :
  Calls Try.prog 20 #[.slice A0 l0.length c0] w fun e w' => e = .returned (.bool r) ∧ Below w.heap.size w w' := by
 have HR0 := Aside0.mk hr0
 have HC0 := Aside0.mk hc0
 clear hr0 hc0
 have HB := Aside0.mk (Below.refl w.heap.size w)
 have H : ((impl_within.f (l0.length : Int) 1 8).bind fun t102 => (if t102 = true then ((impl_areWithin.f l0 0 20).bind fun t103 => (if t103 = true then ((impl_total.f k l0).bind fun t104 => (some (decide (t104 > 0)))) else (some false))) else (some false))) = some r := h
 clear h
 replace H := Option.bind_eq_some_iff.mp H
 obtain ⟨t102, A20, H⟩ := H
 replace H : (if t102 = true then ((impl_areWithin.f l0 0 20).bind fun t103 => (if t103 = true then ((impl_total.f k l0).bind fun t104 => (some (decide (t104 > 0)))) else (some false))) else (some false)) = some r := H
 have A2 := Aside0.mk A20
 clear A20
 by_cases c3 : t102 = true
 ·subst c3
  have H1 : ((impl_areWithin.f l0 0 20).bind fun t103 => (if t103 = true then ((impl_total.f k l0).bind fun t104 => (some (decide (t104 > 0)))) else (some false))) = some r := by rw [if_pos rfl] at H; exact H
  clear H
  have H := H1
  clear H1
  replace H := Option.bind_eq_some_iff.mp H
  obtain ⟨t103, A40, H⟩ := H
  replace H : (if t103 = true then ((impl_total.f k l0).bind fun t104 => (some (decide (t104 > 0)))) else (some false)) = some r := H
  have A4 := Aside0.mk A40
  clear A40
  by_cases c5 : t103 = true
  ·subst c5
   have H1 : ((impl_total.f k l0).bind fun t104 => (some (decide (t104 > 0)))) = some r := by rw [if_pos rfl] at H; exact H
   clear H
   have H := H1
   clear H1
   replace H := Option.bind_eq_some_iff.mp H
   obtain ⟨t104, A60, H⟩ := H
   replace H : (some (decide (t104 > 0))) = some r := H
   have A6 := Aside0.mk A60
   clear A60
   obtain rfl := Option.some.inj H
   go_enter Try.func20, Try.ntmps20
   go_wp2_with (first | ((with_reducible refine gate_callee (f := 31) rfl ?_); refine goesL_ (some 5) rfl rfl Try.func31 (by kernel_rfl) rfl #[.int .i64 (l0.length : Int), .int .i64 1, .int .i64 8] rfl (by (try simp only [List.map_toArray, List.map_cons, List.map_nil]); first | done | rfl | (simp only [List.length_drop, List.length_take]; rfl)) ?_; (with_reducible refine (impl_within.calls (l0.length : Int) 1 8 true _ A2.1).mono ?_); rintro e w' ⟨rfl, ⟨nd, rfl⟩⟩; refine ⟨_, rfl, ?_⟩) | (go_at_call 32; (with_reducible refine (impl_areWithin.calls _ _ l0 0 20 true _ ?side1 ?side2 A4.1).mono ?_); (case side1 => repeat (first | exact HR0.1 | (with_reducible refine Kd.C_alloc ?_ _) | (with_reducible refine Kd.C_drewN ?_ _) | (with_reducible refine Kd.C_drew ?_))); (case side2 => exact HC0.1); rintro e w7 ⟨rfl, hb⟩; have n0_ := Aside0.mk (below_step (by repeat (first | (with_reducible first | exact HB.1 | apply below_alloc | apply pw_below_drewN | apply below_drew1) | exact HB.1)) hb); clear HB; have HB := n0_; clear n0_; (try clear hb); (try clear hb2); (try clear hk); (try clear hi)) | (go_at_call 21; (with_reducible refine (impl_total.calls k _ _ l0 t104 _ ?side1 ?side2 A6.1).mono ?_); (case side1 => repeat (first | exact (Kd.C_below HR0.1 HB.1) | (with_reducible refine Kd.C_alloc ?_ _) | (with_reducible refine Kd.C_drewN ?_ _) | (with_reducible refine Kd.C_drew ?_))); (case side2 => exact HC0.1); rintro e w' ⟨rfl, ⟨nd, rfl⟩⟩))
   go_ret
   exact ⟨by first | rfl | (simp [errW_none, errW_some] <;> rfl) | (simp [Go.IntWalk.i64_left]; done) | (simp [*, errW_none, errW_some] <;> rfl), by repeat (first | (with_reducible first | exact HB.1 | apply below_alloc | apply pw_below_drewN | apply below_drew1) | exact HB.1)⟩
  ·replace c5 := Bool.eq_false_iff.mpr c5
   subst c5
   have H1 : (some false) = some r := by rw [if_neg (show ¬ (false = true) by decide)] at H; exact H
   clear H
   have H := H1
   clear H1
   obtain rfl := Option.some.inj H
   go_enter Try.func20, Try.ntmps20
   go_wp2_with (first | ((with_reducible refine gate_callee (f := 31) rfl ?_); refine goesL_ (some 5) rfl rfl Try.func31 (by kernel_rfl) rfl #[.int .i64 (l0.length : Int), .int .i64 1, .int .i64 8] rfl (by (try simp only [List.map_toArray, List.map_cons, List.map_nil]); first | done | rfl | (simp only [List.length_drop, List.length_take]; rfl)) ?_; (with_reducible refine (impl_within.calls (l0.length : Int) 1 8 true _ A2.1).mono ?_); rintro e w' ⟨rfl, ⟨nd, rfl⟩⟩; refine ⟨_, rfl, ?_⟩) | (go_at_call 32; (with_reducible refine (impl_areWithin.calls _ _ l0 0 20 false _ ?side1 ?side2 A4.1).mono ?_); (case side1 => repeat (first | exact HR0.1 | (with_reducible refine Kd.C_alloc ?_ _) | (with_reducible refine Kd.C_drewN ?_ _) | (with_reducible refine Kd.C_drew ?_))); (case side2 => exact HC0.1); rintro e w8 ⟨rfl, hb⟩; have n0_ := Aside0.mk (below_step (by repeat (first | (with_reducible first | exact HB.1 | apply below_alloc | apply pw_below_drewN | apply below_drew1) | exact HB.1)) hb); clear HB; have HB := n0_; clear n0_; (try clear hb); (try clear hb2); (try clear hk); (try clear hi)))
   go_ret
   exact ⟨by first | rfl | (simp [errW_none, errW_some] <;> rfl) | (simp [Go.IntWalk.i64_left]; done) | (simp [*, errW_none, errW_some] <;> rfl), by repeat (first | (with_reducible first | exact HB.1 | apply below_alloc | apply pw_below_drewN | apply below_drew1) | exact HB.1)⟩
 ·replace c3 := Bool.eq_false_iff.mpr c3
  subst c3
  have H1 : (some false) = some r := by rw [if_neg (show ¬ (false = true) by decide)] at H; exact H
  clear H
  have H := H1
  clear H1
  obtain rfl := Option.some.inj H
  go_enter Try.func20, Try.ntmps20
  go_wp2_with (first | ((with_reducible refine gate_callee (f := 31) rfl ?_); refine goesL_ (some 5) rfl rfl Try.func31 (by kernel_rfl) rfl #[.int .i64 (l0.length : Int), .int .i64 1, .int .i64 8] rfl (by (try simp only [List.map_toArray, List.map_cons, List.map_nil]); first | done | rfl | (simp only [List.length_drop, List.length_take]; rfl)) ?_; (with_reducible refine (impl_within.calls (l0.length : Int) 1 8 false _ A2.1).mono ?_); rintro e w' ⟨rfl, ⟨nd, rfl⟩⟩; refine ⟨_, rfl, ?_⟩))
  go_ret
  exact ⟨by first | rfl | (simp [errW_none, errW_some] <;> rfl) | (simp [Go.IntWalk.i64_left]; done) | (simp [*, errW_none, errW_some] <;> rfl), by repeat (first | (with_reducible first | exact HB.1 | apply below_alloc | apply pw_below_drewN | apply below_drew1) | exact HB.1)⟩

/-! ### impl_pairsOf: function 25 -/
def impl_pairsOf.l0 : Nat → Int → List Int → Int → Int → Option (Int)
 | 0, _, _, _, _ => none
 | k + 1, x3, x6, x7, x8 => if x8 < x7 then (if 0 ≤ x8 then (if x8 < (x6.length : Int) then (impl_pairsOf.l0 k (wrap64 (x3 + (wrap64 (Int.tdiv (rd x6 x8) 2)))) x6 x7 (wrap64 (x8 + 1))) else (none)) else (none)) else (some x3)
def impl_pairsOf.f (k : Nat) (l0 : List Int) : Option (Int) := impl_pairsOf.l0 k 0 l0 (l0.length : Int) 0
theorem impl_pairsOf.mono_l : ∀ k, (∀ y0 y1 y2 y3, LeO (impl_pairsOf.l0 k y0 y1 y2 y3) (impl_pairsOf.l0 (k + 1) y0 y1 y2 y3))
 | 0 => fun _ _ _ _ r h => by simp [impl_pairsOf.l0] at h
 | k + 1 => by
  have ih0 := impl_pairsOf.mono_l k
  ·intro y0 y1 y2 y3
   unfold impl_pairsOf.l0
   repeat' first
   | (with_reducible exact ih0 _ _ _ _)
   | (with_reducible exact LeO.refl _)
   | (with_reducible exact LeO.none _)
   | (with_reducible refine LeO.ite ?_ ?_)
   | (with_reducible refine LeO.bind ?_ (fun _ => ?_))
   | exact ih0 _ _ _ _
   | exact LeO.none _
   | refine LeO.ite ?_ ?_
   | refine LeO.bind ?_ (fun _ => ?_)
theorem impl_pairsOf.mono : ∀ a0 k, LeO (impl_pairsOf.f k a0) (impl_pairsOf.f (k + 1) a0) := by
 intro a0 k
 have ih0 := impl_pairsOf.mono_l k
 unfold impl_pairsOf.f
 repeat' first
   | (with_reducible exact ih0 _ _ _ _)
   | (with_reducible exact LeO.refl _)
   | (with_reducible exact LeO.none _)
   | (with_reducible refine LeO.ite ?_ ?_)
   | (with_reducible refine LeO.bind ?_ (fun _ => ?_))
   | exact ih0 _ _ _ _
   | exact LeO.none _
   | refine LeO.ite ?_ ?_
   | refine LeO.bind ?_ (fun _ => ?_)
set_option maxHeartbeats 8000000 in
set_option maxRecDepth 100000 in
theorem impl_pairsOf.calls (k : Nat) (A0 : Option Addr) (c0 : Nat) (l0 : List Int) (r : Int) (w : World) (hr0 : Kd.C (Kd.int .i64) w A0 l0.length l0) (hc0 : l0.length ≤ c0) (h : impl_pairsOf.f k l0 = some r) :
  Calls Try.prog 25 #[.slice A0 l0.length c0] w fun e w' => e = .returned (.int .i64 r) ∧ Drawn0 w w' := by
 have HR0 := Aside0.mk hr0
 have HC0 := Aside0.mk hc0
 clear hr0 hc0
 have H : (impl_pairsOf.l0 k 0 l0 (l0.length : Int) 0) = some r := h
 clear h
 have H' := Aside0.mk H
 clear H
 go_enter Try.func25, Try.ntmps25
 go_wp2
 go_loopg [3, 8] k (fun kq v3 v8 w' => ∃ (x3_1 : Int) (x8_1 : Int), v3 = .int .i64 x3_1 ∧ v8 = .int .i64 x8_1 ∧ Aside0 (impl_pairsOf.l0 kq x3_1 l0 (l0.length : Int) x8_1 = some r) ∧ Aside0 (kq ≤ k) ∧ Drawn0 w w')
 case atStart => exact ⟨(0), (0), (by first | rfl | (simp; done) | (simp [*]; done) | (simp [Go.IntWalk.i64_left]; done)), (by first | rfl | (simp; done) | (simp [*]; done) | (simp [Go.IntWalk.i64_left]; done)), H', ⟨Nat.le_refl _⟩, by repeat (first | exact Drawn0.refl _ | apply Drawn0.step)⟩
 case round =>
  clear H'
  obtain ⟨x3_1, x8_1, rfl, rfl, HA, HK1, ⟨m1, rfl⟩⟩ := hrel
  cases gk with
  | zero => exact absurd HA.1 (by simp [impl_pairsOf.l0])
  | succ k1 =>
   have H := HA.1
   clear HA
   simp only [impl_pairsOf.l0] at H
   by_cases c2 : x8_1 < (l0.length : Int)
   ·rw [if_pos c2] at H
    have c2b0 : decide (x8_1 < (l0.length : Int)) = true := decide_eq_true c2
    clear c2
    by_cases c3 : 0 ≤ x8_1
    ·rw [if_pos c3] at H
     have c3b0 : decide (0 ≤ x8_1) = true := decide_eq_true c3
     clear c3
     by_cases c4 : x8_1 < (l0.length : Int)
     ·rw [if_pos c4] at H
      have c4b0 : decide (x8_1 < (l0.length : Int)) = true := decide_eq_true c4
      clear c4
      have H' := Aside0.mk H
      clear H
      have p105 : 0 ≤ (x8_1 : Int) := of_decide_eq_true (by first | (with_reducible assumption) | assumption)
      have q105 : x8_1 < (l0.length : Int) := of_decide_eq_true (by first | (with_reducible assumption) | assumption)
      obtain ⟨ad105, e105, hx105_0⟩ := Kd.at_int HR0.1 x8_1 p105 q105
      cases e105
      replace p105 := eq_true p105
      replace q105 := eq_true q105
      go_wp2
      go_roundg k1
      case measure => have := HK1.1; omega
      case rel => exact ⟨(wrap64 (x3_1 + (wrap64 (Int.tdiv (rd l0 x8_1) 2)))), (wrap64 (x8_1 + 1)), (by first | rfl | (simp; done) | (simp [*]; done) | (simp [Go.IntWalk.i64_left]; done)), (by first | rfl | (simp; done) | (simp [*]; done) | (simp [Go.IntWalk.i64_left]; done)), H', ⟨by have := HK1.1; omega⟩, by repeat (first | exact Drawn0.refl _ | apply Drawn0.step)⟩
     ·rw [if_neg c4] at H
      exact absurd H (by simp)
    ·rw [if_neg c3] at H
     exact absurd H (by simp)
   ·rw [if_neg c2] at H
    have c2b0 : decide (x8_1 < (l0.length : Int)) = false := decide_eq_false c2
    clear c2
    obtain rfl := Option.some.inj H
    go_wp2
    go_ret
    exact ⟨by first | rfl | (simp; done) | (simp [*]; done) | (simp [Go.IntWalk.i64_left]; done), by repeat (first | exact Drawn0.refl _ | apply Drawn0.step)⟩

/-! ### impl_draws: function 22 -/
/-! #### tables of rows, block by block -/
def rowA (n : Nat) (g : Nat → Int) : Array Value := ((List.range n).map fun q => Value.int .i64 (g q)).toArray
def midA (n c M k : Nat) : Array Value := ((List.range n).map fun j => if j < k then Value.slice (some ⟨M + 1 + j, 0, none⟩) c c else Value.slice none 0 0).toArray
theorem rowA_get (n : Nat) (g : Nat → Int) (q : Nat) (h : q < n) : (rowA n g)[q]? = some (.int .i64 (g q)) := by
  simp [rowA, h]
theorem rowA_set (n : Nat) (g : Nat → Int) (q : Nat) (v : Int) : (rowA n g).setIfInBounds q (.int .i64 v) = rowA n (fun j => if j = q then v else g j) := by
  apply Array.ext_getElem?
  intro j
  rw [Array.getElem?_setIfInBounds]
  by_cases hj : q = j
  · subst hj
    rw [if_pos rfl]
    by_cases hq : q < n
    · rw [rowA_get _ _ _ hq, if_pos (by simp [rowA]; exact hq)]; simp
    · rw [if_neg (by simp [rowA]; omega)]
      have : (rowA n fun j => if j = q then v else g j)[q]? = none := by simp [rowA]; omega
      rw [this]
  · rw [if_neg hj]
    by_cases hq : j < n
    · rw [rowA_get _ _ _ hq, rowA_get _ _ _ hq, if_neg (fun h => hj h.symm)]
    · have h1 : (rowA n fun j => if j = q then v else g j)[j]? = none := by simp [rowA]; omega
      have h2 : (rowA n g)[j]? = none := by simp [rowA]; omega
      rw [h1, h2]
theorem midA_get (n c M k j : Nat) (h : j < n) : (midA n c M k)[j]? = some (if j < k then .slice (some ⟨M + 1 + j, 0, none⟩) c c else .slice none 0 0) := by
  simp [midA, h]
theorem midA_set (n c M k : Nat) : (midA n c M k).setIfInBounds k (.slice (some ⟨M + 1 + k, 0, none⟩) c c) = midA n c M (k + 1) := by
  apply Array.ext_getElem?
  intro j
  rw [Array.getElem?_setIfInBounds]
  by_cases hj : k = j
  · subst hj
    rw [if_pos rfl]
    by_cases hq : k < n
    · rw [midA_get _ _ _ _ _ hq, if_pos (by simp [midA]; exact hq), if_pos (by omega)]
    · rw [if_neg (by simp [midA]; omega)]
      have : (midA n c M (k + 1))[k]? = none := by simp [midA]; omega
      rw [this]
  · rw [if_neg hj]
    by_cases hq : j < n
    · rw [midA_get _ _ _ _ _ hq, midA_get _ _ _ _ _ hq]
      by_cases hk : j < k
      · rw [if_pos hk, if_pos (by omega)]
      · rw [if_neg hk, if_neg (by omega)]
    · have h1 : (midA n c M (k + 1))[j]? = none := by simp [midA]; omega
      have h2 : (midA n c M k)[j]? = none := by simp [midA]; omega
      rw [h1, h2]
theorem midA_zero (n c M : Nat) : madeCells (Value.cells (.slice none 0 0)) (n * 1) = midA n c M 0 := by
  apply Array.ext_getElem?
  intro j
  by_cases hq : j < n
  · rw [midA_get _ _ _ _ _ hq, if_neg (by omega)]
    simp [madeCells, Value.cells, hq, Nat.mod_one]
  · have h1 : (midA n c M 0)[j]? = none := by simp [midA]; omega
    rw [h1]; simp [madeCells]; omega
theorem rowA_zero (n : Nat) : madeCells (Value.cells (.int .i64 0)) (n * 1) = rowA n (fun _ => 0) := by
  apply Array.ext_getElem?
  intro j
  by_cases hq : j < n
  · rw [rowA_get _ _ _ hq]
    simp [madeCells, Value.cells, hq, Nat.mod_one]
  · have h1 : (rowA n fun _ => 0)[j]? = none := by simp [rowA]; omega
    rw [h1]; simp [madeCells]; omega
theorem mk_row_ (W : World) (t e : Nat) (z : Value) (b n : Nat) (hn : n ≤ 1000) (ht : Try.prog.underlying t = some (.slice e)) (hi : (Try.prog.info? e).map (fun i => (i.zero, i.size, i.bytes)) = some (some z, 1, b)) (hb : b ≤ 100) :
    (Instr.makeSlice t (.int .i64 n) (.int .i64 n)).run Try.prog W = .ok (.slice (some ⟨W.heap.size, 0, none⟩) n n) (W.alloc (.cells (madeCells z.cells (n * 1)) e)) := by
  obtain ⟨i0, hi, hzz⟩ := Option.map_eq_some_iff.1 hi
  simp only [Prod.mk.injEq] at hzz
  obtain ⟨hz0, hz1, hz2⟩ := hzz
  have h3 : ((i0.bytes : Int)) * (n : Int) ≤ 281474976710656 := by
    rw [hz2]
    have : b * n ≤ 100 * 1000 := Nat.mul_le_mul hb hn
    have h4 : ((b * n : Nat) : Int) ≤ 100000 := by omega
    rw [Int.natCast_mul] at h4; omega
  have h := run_make (P := Try.prog) W t e i0 z ht hi hz0 .i64 .i64 (n : Int) (n : Int) (by omega) (by omega) h3 (by omega)
  rw [h, hz1]
  simp only [Int.toNat_natCast]
theorem mk_out (W : World) (n : Nat) (hn : n ≤ 1000) : (Instr.makeSlice 37 (.int .i64 n) (.int .i64 n)).run Try.prog W = .ok (.slice (some ⟨W.heap.size, 0, none⟩) n n) (W.alloc (.cells (midA n 0 0 0) 36)) := by
  rw [mk_row_ W 37 36 (.slice none 0 0) 24 n hn (by kernel_rfl) (by kernel_rfl) (by omega), midA_zero n 0 0]
theorem mk_mid (W : World) (n M c : Nat) (hn : n ≤ 1000) : (Instr.makeSlice 36 (.int .i64 n) (.int .i64 n)).run Try.prog W = .ok (.slice (some ⟨W.heap.size, 0, none⟩) n n) (W.alloc (.cells (midA n c M 0) 22)) := by
  rw [mk_row_ W 36 22 (.slice none 0 0) 24 n hn (by kernel_rfl) (by kernel_rfl) (by omega), midA_zero n c M]
theorem mk_row (W : World) (n : Nat) (hn : n ≤ 1000) : (Instr.makeSlice 22 (.int .i64 n) (.int .i64 n)).run Try.prog W = .ok (.slice (some ⟨W.heap.size, 0, none⟩) n n) (W.alloc (.cells (rowA n (fun _ => 0)) 3)) := by
  rw [mk_row_ W 22 3 (.int .i64 0) 8 n hn (by kernel_rfl) (by kernel_rfl) (by omega), rowA_zero n]
/-- One table: block M leads to the rows M + 1 .. M + 1 + a; row k holds F k. -/
structure Lay (w : World) (M a p : Nat) (F : Nat → Nat → Int) : Prop where
  mid : w.heap[M]? = some (.cells (midA (a + 1) (p + 1) M (a + 1)) 22 (0, 0))
  row : ∀ k, k ≤ a → w.heap[M + 1 + k]? = some (.cells (rowA (p + 1) (F k)) 3 (0, 0))
section
variable {w w1 : World} {M a p : Nat} {F : Nat → Nat → Int}
theorem cell_of {w : World} {g j : Nat} {cs : Array Value} {t : TypeId} {v : Value} (h : w.heap[g]? = some (.cells cs t (0, 0))) (hv : cs[j]? = some v) : w.cell? ⟨g, j, none⟩ = some v := by
  simp [World.cell?, h, hv]
theorem Lay.at_mid (h : Lay w M a p F) (k : Nat) (hk : k ≤ a) : w.cell? ⟨M, k, none⟩ = some (.slice (some ⟨M + 1 + k, 0, none⟩) (p + 1) (p + 1)) := by
  rw [cell_of h.mid (midA_get _ _ _ _ _ (by omega)), if_pos (by omega)]
theorem Lay.at_row (h : Lay w M a p F) (k q : Nat) (hk : k ≤ a) (hq : q ≤ p) : w.cell? ⟨M + 1 + k, q, none⟩ = some (.int .i64 (F k q)) :=
  cell_of (h.row k hk) (rowA_get _ _ _ (by omega))
theorem Lay.keep (h : Lay w M a p F) (hw : ∀ b, M ≤ b → b ≤ M + 1 + a → w1.heap[b]? = w.heap[b]?) : Lay w1 M a p F :=
  ⟨(hw M (by omega) (by omega)).trans h.mid, fun k hk => (hw _ (by omega) (by omega)).trans (h.row k hk)⟩
theorem Lay.put (h : Lay w M a p F) (k q : Nat) (hk : k ≤ a) (v : Int) : Lay (w.setCell ⟨M + 1 + k, q, none⟩ (.int .i64 v)) M a p (fun k' q' => if k' = k then (if q' = q then v else F k q') else F k' q') := by
  refine ⟨(heap_setCell_other _ _ _ _ (by show M ≠ M + 1 + k; omega)).trans h.mid, fun k' hk' => ?_⟩
  by_cases he : k' = k
  · subst he
    rw [heap_setCell_same _ _ _ _ _ _ (h.row k' hk'), rowA_set]
    simp only [if_pos]
  · rw [heap_setCell_other _ _ _ _ (by show M + 1 + k' ≠ M + 1 + k; omega), h.row k' hk']
    simp only [if_neg he]
theorem Lay.congr {G : Nat → Nat → Int} (h : Lay w M a p F) (e : ∀ k q, k ≤ a → q ≤ p → F k q = G k q) : Lay w M a p G := by
  refine ⟨h.mid, fun k hk => ?_⟩
  rw [h.row k hk]
  have : rowA (p + 1) (F k) = rowA (p + 1) (G k) := by
    unfold rowA
    congr 1
    exact List.map_congr_left fun q hq => by rw [e k q hk (by have := List.mem_range.1 hq; omega)]
  rw [this]
end
theorem heap_new (w : World) (o : Obj) : (w.alloc o).heap[w.heap.size]? = some o := by
  show (w.heap.push o)[w.heap.size]? = _
  rw [Array.getElem?_push, if_pos rfl]
theorem block_lt {w : World} {b j : Nat} {v : Value} (h : w.cell? ⟨b, j, none⟩ = some v) : b < w.heap.size := by
  by_cases hlt : b < w.heap.size
  · exact hlt
  · have hn : w.heap[b]? = none := by simp; omega
    simp [World.cell?, hn] at h
def xTabPost (M a p : Nat) (w : World) (e : Ending) (w' : World) : Prop :=
  e = .returned (.slice (some ⟨M, 0, none⟩) (a + 1) (a + 1)) ∧ Aside0 (Lay w' M a p (fun _ _ => 0) ∧ w'.heap.size = M + a + 2 ∧ Below M w w')
structure XT (w w' : World) (M a p k : Nat) : Prop where
  mid : w'.heap[M]? = some (.cells (midA (a + 1) (p + 1) M k) 22 (0, 0))
  row : ∀ j, j < k → w'.heap[M + 1 + j]? = some (.cells (rowA (p + 1) (fun _ => 0)) 3 (0, 0))
  size : w'.heap.size = M + 1 + k
  bel : Below M w w'
theorem XT.start (w : World) (a p : Nat) : XT w (w.alloc (.cells (midA (a + 1) (p + 1) w.heap.size 0) 22)) w.heap.size a p 0 :=
  ⟨heap_new _ _, fun j hj => absurd hj (by omega), by simp, below_alloc (Below.refl _ _) _⟩
theorem XT.step {w w' : World} {M a p k : Nat} (h : XT w w' M a p k) (hM : M = w.heap.size) (hk : k ≤ a) :
    XT w ((w'.setCell ⟨M, k, none⟩ (.slice (some ⟨w'.heap.size, 0, none⟩) (p + 1) (p + 1))).alloc (.cells (rowA (p + 1) (fun _ => 0)) 3)) M a p (k + 1) := by
  have hs := h.size
  have hz : (w'.setCell ⟨M, k, none⟩ (.slice (some ⟨w'.heap.size, 0, none⟩) (p + 1) (p + 1))).heap.size = M + 1 + k := by rw [World.size_setCell]; exact hs
  refine ⟨?_, fun j hj => ?_, by simp [hs]; omega, ?_⟩
  · rw [Below.heap_alloc _ _ _ (by omega), heap_setCell_same _ _ _ _ _ _ h.mid, hs, midA_set]
  · by_cases he : j = k
    · subst he
      rw [← hz]; exact heap_new _ _
    · rw [Below.heap_alloc _ _ _ (by omega), heap_setCell_other _ _ _ _ (by show M + 1 + j ≠ M; omega)]
      exact h.row j (by omega)
  · exact Below.alloc (Below.setCell h.bel (Nat.le_refl _) _) (by omega) _
theorem XT.done {w w' : World} {M a p : Nat} (h : XT w w' M a p (a + 1)) : Lay w' M a p (fun _ _ => 0) ∧ w'.heap.size = M + a + 2 ∧ Below M w w' :=
  ⟨⟨h.mid, fun k hk => h.row k (by omega)⟩, by rw [h.size]; omega, h.bel⟩
set_option maxHeartbeats 4000000 in
set_option maxRecDepth 100000 in
theorem xTable (bA bP a p : Nat) (w : World) (hA : w.cell? ⟨bA, 0, none⟩ = some (.int .i64 (a : Int))) (hP : w.cell? ⟨bP, 0, none⟩ = some (.int .i64 (p : Int))) (ha : a ≤ 160) (hp : p ≤ 80) :
    Calls Try.prog 43 #[.pointer (some ⟨bA, 0, none⟩), .pointer (some ⟨bP, 0, none⟩)] w (xTabPost w.heap.size a p w) := by
  have hbA : bA < w.heap.size := block_lt hA
  have hbP : bP < w.heap.size := block_lt hP
  have wa : IntKind.i64.wrap ((a : Int) + 1) = ((a + 1 : Nat) : Int) := by rw [IntKind.wrap_i64]; omega
  have wp : IntKind.i64.wrap ((p : Int) + 1) = ((p + 1 : Nat) : Int) := by rw [IntKind.wrap_i64]; omega
  have mm : ∀ W : World, (Instr.makeSlice 36 (.int .i64 ((a : Int) + 1)) (.int .i64 ((a : Int) + 1))).run Try.prog W = .ok (.slice (some ⟨W.heap.size, 0, none⟩) (a + 1) (a + 1)) (W.alloc (.cells (midA (a + 1) (p + 1) w.heap.size 0) 22)) := fun W => mk_mid W (a + 1) w.heap.size (p + 1) (by omega)
  have mr : ∀ W : World, (Instr.makeSlice 22 (.int .i64 ((p : Int) + 1)) (.int .i64 ((p : Int) + 1))).run Try.prog W = .ok (.slice (some ⟨W.heap.size, 0, none⟩) (p + 1) (p + 1)) (W.alloc (.cells (rowA (p + 1) (fun _ => 0)) 3)) := fun W => mk_row W (p + 1) (by omega)
  go_enter Try.func43, Try.ntmps43
  go_wp2
  go_loopw [10] (fun i w' => ∃ k : Nat, k ≤ a + 1 ∧ i = .int .i64 k ∧ Aside0 (XT w w' w.heap.size a p k)) (fun i _ => a + 1 - (intOf i).toNat)
  case atStart => exact ⟨0, Nat.zero_le _, rfl, ⟨XT.start w a p⟩⟩
  case round =>
    obtain ⟨k, hk, rfl, HX⟩ := hrel
    have hP' : wr.cell? ⟨bP, 0, none⟩ = some (.int .i64 (p : Int)) := (World.cell?_of_block (HX.out.bel.block bP hbP)).trans hP
    by_cases hlt : k < a + 1
    · have hm : w.heap.size < wr.heap.size := by rw [HX.out.size]; omega
      have hq : (midA (a + 1) (p + 1) w.heap.size k)[k]? = some (.slice none 0 0) := by rw [midA_get _ _ _ _ _ hlt, if_neg (by omega)]
      have hx : wr.cell? ⟨w.heap.size, k, none⟩ = some (.slice none 0 0) := cell_of HX.out.mid hq
      have hf : wr.frozen? ⟨w.heap.size, k, none⟩ = false := frozen_of_row _ _ _ _ _ HX.out.mid
      go_wp2
      go_roundw
      case rel => exact ⟨k + 1, by omega, by go_num, ⟨HX.out.step rfl (by omega)⟩⟩
      case measure => simp [intOf]; omega
    · obtain rfl : k = a + 1 := by omega
      go_wp2
      go_ret
      exact ⟨rfl, ⟨HX.out.done⟩⟩
def half (d : Nat) : Nat := d / 2
def sumTo : Nat → (Nat → Nat) → Nat
  | 0, _ => 0
  | m + 1, g => sumTo m g + g m
/-- How many draws of these colours have k socks and p of what f counts. -/
def cnt (f : Nat → Nat) : List Nat → Nat → Nat → Nat
  | [], k, p => if k = 0 ∧ p = 0 then 1 else 0
  | n :: r, k, p => sumTo (n + 1) fun d => if d ≤ k ∧ f d ≤ p then cnt f r (k - d) (p - f d) else 0
theorem sumTo_le : ∀ (m b : Nat) (f : Nat → Nat), (∀ d, d < m → f d ≤ b) → sumTo m f ≤ m * b
  | 0, _, _, _ => by simp [sumTo]
  | m + 1, b, f, h => by
    simp only [sumTo]
    have h1 := sumTo_le m b f (fun d hd => h d (by omega))
    have h2 := h m (by omega)
    rw [Nat.add_mul]; omega
theorem cnt_le (f : Nat → Nat) : ∀ (l : List Nat), (∀ x ∈ l, x ≤ 20) → ∀ k p, cnt f l k p ≤ 21 ^ l.length
  | [], _, k, p => by simp only [cnt]; split <;> simp
  | n :: r, h, k, p => by
    simp only [cnt, List.length_cons, Nat.pow_succ]
    have hn := h n (by simp)
    have := sumTo_le (n + 1) (21 ^ r.length) (fun d => if d ≤ k ∧ f d ≤ p then cnt f r (k - d) (p - f d) else 0) (fun d _ => by
      show (if d ≤ k ∧ f d ≤ p then cnt f r (k - d) (p - f d) else 0) ≤ _
      split
      · exact cnt_le f r (fun x hx => h x (by simp [hx])) _ _
      · exact Nat.zero_le _)
    have h2 : (n + 1) * 21 ^ r.length ≤ 21 * 21 ^ r.length := Nat.mul_le_mul_right _ (by omega)
    rw [Nat.mul_comm (21 ^ r.length)]
    omega
def restN (l : List Int) (i : Nat) : List Nat := (l.drop i).map Int.toNat
/-- Row i of the table: what the colours from i on give. -/
def tabT (l : List Int) (i k q : Nat) : Int := (cnt half (restN l i) k q : Int)
/-- .. as far as it is told when m numbers of colour i have been gone through. -/
def tabP (l : List Int) (i m k q : Nat) : Int := (sumTo m (fun d => if d ≤ k ∧ half d ≤ q then cnt half (restN l (i + 1)) (k - d) (q - half d) else 0) : Nat)
def GoodL (l : List Int) : Prop := l.length ≤ 8 ∧ ∀ x ∈ l, 0 ≤ x ∧ x ≤ 20
theorem restN_len (l : List Int) (i : Nat) : (restN l i).length = l.length - i := by simp [restN]
theorem restN_le {l : List Int} (h : GoodL l) (i : Nat) : ∀ x ∈ restN l i, x ≤ 20 := by
  intro x hx
  obtain ⟨y, hy, rfl⟩ := List.mem_map.1 hx
  have := h.2 y (List.mem_of_mem_drop hy)
  omega
theorem pow_le8 (m : Nat) (h : m ≤ 8) : 21 ^ m ≤ 37822859361 := by
  have := Nat.pow_le_pow_right (n := 21) (by omega) h
  calc 21 ^ m ≤ 21 ^ 8 := this
    _ = 37822859361 := by decide
theorem tabT_bd {l : List Int} (h : GoodL l) (i k q : Nat) : 0 ≤ tabT l i k q ∧ tabT l i k q ≤ 37822859361 := by
  have h1 := cnt_le half (restN l i) (restN_le h i) k q
  have h2 := pow_le8 (restN l i).length (by rw [restN_len]; have := h.1; omega)
  unfold tabT; omega
theorem tabP_bd {l : List Int} (h : GoodL l) (i m k q : Nat) (hm : m ≤ 21) : 0 ≤ tabP l i m k q ∧ tabP l i m k q ≤ 794280046581 := by
  have h1 := sumTo_le m 37822859361 (fun d => if d ≤ k ∧ half d ≤ q then cnt half (restN l (i + 1)) (k - d) (q - half d) else 0) (fun d _ => by
    show (if d ≤ k ∧ half d ≤ q then cnt half (restN l (i + 1)) (k - d) (q - half d) else 0) ≤ _
    split
    · exact Nat.le_trans (cnt_le half _ (restN_le h _) _ _) (pow_le8 _ (by rw [restN_len]; have := h.1; omega))
    · omega)
  have h2 : m * 37822859361 ≤ 21 * 37822859361 := Nat.mul_le_mul_right _ hm
  unfold tabP; omega
theorem tabP_zero (l : List Int) (i k q : Nat) : tabP l i 0 k q = 0 := rfl
theorem tabP_succ (l : List Int) (i m k q : Nat) : tabP l i (m + 1) k q = tabP l i m k q + if m ≤ k ∧ half m ≤ q then tabT l (i + 1) (k - m) (q - half m) else 0 := by
  unfold tabP tabT
  simp only [sumTo]
  split <;> simp
theorem tabP_all {l : List Int} (i k q : Nat) (hi : i < l.length) (h : 0 ≤ l[i]) : tabP l i (l[i].toNat + 1) k q = tabT l i k q := by
  unfold tabP tabT
  have e : restN l i = l[i].toNat :: restN l (i + 1) := by unfold restN; rw [List.drop_eq_getElem_cons hi]; rfl
  rw [e]; rfl
theorem tabT_end (l : List Int) (k q : Nat) : tabT l l.length k q = if k = 0 ∧ q = 0 then 1 else 0 := by
  unfold tabT restN
  rw [List.drop_eq_nil_of_le (Nat.le_refl _)]
  simp only [List.map_nil, cnt]
  split <;> rfl
/-- The row in the middle of its reckoning: behind number m, up to k and q. -/
def tabF (l : List Int) (i m k q : Nat) : Nat → Nat → Int := fun k' q' => if k' < k ∨ (k' = k ∧ q' < q) then tabP l i (m + 1) k' q' else tabP l i m k' q'
theorem tabF_at (l : List Int) (i m k q : Nat) : tabF l i m k q k q = tabP l i m k q := if_neg (by omega)
theorem tabF_start (l : List Int) (i m k' q' : Nat) : tabP l i m k' q' = tabF l i m m (half m) k' q' := by
  unfold tabF
  split
  · rw [tabP_succ, if_neg (by omega)]; omega
  · rfl
theorem tabF_row (l : List Int) (i m k p k' q' : Nat) (h : q' ≤ p) : tabF l i m k (p + 1) k' q' = tabF l i m (k + 1) (half m) k' q' := by
  unfold tabF
  by_cases h1 : k' < k ∨ (k' = k ∧ q' < p + 1)
  · rw [if_pos h1, if_pos (by omega)]
  · rw [if_neg h1]
    by_cases h2 : k' < k + 1 ∨ (k' = k + 1 ∧ q' < half m)
    · rw [if_pos h2, tabP_succ, if_neg (by omega)]; omega
    · rw [if_neg h2]
theorem tabF_all (l : List Int) (i m k' q' a : Nat) (h : k' ≤ a) (q : Nat) : tabF l i m (a + 1) q k' q' = tabP l i (m + 1) k' q' := if_pos (by omega)
theorem tabF_put (l : List Int) (i m k q k' q' : Nat) (hk : m ≤ k) (hq : half m ≤ q) :
    (if k' = k then (if q' = q then tabF l i m k q k q + tabT l (i + 1) (k - m) (q - half m) else tabF l i m k q k q') else tabF l i m k q k' q') = tabF l i m k (q + 1) k' q' := by
  by_cases h1 : k' = k
  · subst h1
    rw [if_pos rfl]
    by_cases h2 : q' = q
    · subst h2
      rw [if_pos rfl, tabF_at]
      unfold tabF
      rw [if_pos (by omega), tabP_succ, if_pos ⟨hk, hq⟩]
    · rw [if_neg h2]
      unfold tabF
      by_cases h3 : q' < q
      · rw [if_pos (by omega), if_pos (by omega)]
      · rw [if_neg (by omega), if_neg (by omega)]
  · rw [if_neg h1]
    unfold tabF
    by_cases h3 : k' < k
    · rw [if_pos (by omega), if_pos (by omega)]
    · rw [if_neg (by omega), if_neg (by omega)]
def outA (n j a s : Nat) : Array Value := ((List.range (n + 1)).map fun i => if j ≤ i then Value.slice (some ⟨s + 3 + (n - i) * (a + 2), 0, none⟩) (a + 1) (a + 1) else Value.slice none 0 0).toArray
theorem outA_get (n j a s i : Nat) (h : i ≤ n) : (outA n j a s)[i]? = some (if j ≤ i then .slice (some ⟨s + 3 + (n - i) * (a + 2), 0, none⟩) (a + 1) (a + 1) else .slice none 0 0) := by
  have : i < n + 1 := by omega
  simp [outA, this]
theorem outA_none (n j a s i : Nat) (h : n < i) : (outA n j a s)[i]? = none := by simp [outA]; omega
theorem outA_set (n i a s : Nat) : (outA n (i + 1) a s).setIfInBounds i (.slice (some ⟨s + 3 + (n - i) * (a + 2), 0, none⟩) (a + 1) (a + 1)) = outA n i a s := by
  apply Array.ext_getElem?
  intro j
  rw [Array.getElem?_setIfInBounds]
  by_cases hj : i = j
  · subst hj
    rw [if_pos rfl]
    by_cases hq : i ≤ n
    · rw [outA_get _ _ _ _ _ hq, if_pos (by simp [outA]; omega), if_pos (by omega)]
    · rw [if_neg (by simp [outA]; omega), outA_none _ _ _ _ _ (by omega)]
  · rw [if_neg hj]
    by_cases hq : j ≤ n
    · rw [outA_get _ _ _ _ _ hq, outA_get _ _ _ _ _ hq]
      by_cases hk : i + 1 ≤ j
      · rw [if_pos hk, if_pos (by omega)]
      · rw [if_neg hk, if_neg (by omega)]
    · rw [outA_none _ _ _ _ _ (by omega), outA_none _ _ _ _ _ (by omega)]
theorem outA_nil (n a s : Nat) : midA (n + 1) 0 0 0 = outA n (n + 1) a s := by
  apply Array.ext_getElem?
  intro j
  by_cases hq : j ≤ n
  · rw [midA_get _ _ _ _ _ (by omega), outA_get _ _ _ _ _ hq, if_neg (by omega), if_neg (by omega)]
  · rw [outA_none _ _ _ _ _ (by omega)]; simp [midA]; omega
/-- Rows j .. n of the table stand; row i at block s + 3 + (n - i) (a + 2). -/
structure StB (l : List Int) (a p s : Nat) (w w' : World) (j : Nat) : Prop where
  cA : w'.cell? ⟨s, 0, none⟩ = some (.int .i64 (a : Int))
  cP : w'.cell? ⟨s + 1, 0, none⟩ = some (.int .i64 (p : Int))
  out : w'.heap[s + 2]? = some (.cells (outA l.length j a s) 36 (0, 0))
  lay : ∀ i, j ≤ i → i ≤ l.length → Lay w' (s + 3 + (l.length - i) * (a + 2)) a p (tabT l i)
  size : w'.heap.size = s + 3 + (l.length + 1 - j) * (a + 2)
  bel : Below s w w'
/-- .. and row i, in the middle of its reckoning. -/
structure StC (l : List Int) (a p s : Nat) (w w' : World) (i : Nat) (F : Nat → Nat → Int) : Prop where
  cA : w'.cell? ⟨s, 0, none⟩ = some (.int .i64 (a : Int))
  cP : w'.cell? ⟨s + 1, 0, none⟩ = some (.int .i64 (p : Int))
  out : w'.heap[s + 2]? = some (.cells (outA l.length i a s) 36 (0, 0))
  cur : Lay w' (s + 3 + (l.length - i) * (a + 2)) a p F
  lay : ∀ i', i < i' → i' ≤ l.length → Lay w' (s + 3 + (l.length - i') * (a + 2)) a p (tabT l i')
  size : w'.heap.size = s + 3 + (l.length + 1 - i) * (a + 2)
  bel : Below s w w'
section
variable {l : List Int} {a p s i : Nat} {w w' w2 : World} {F : Nat → Nat → Int}
theorem StC.congr {G : Nat → Nat → Int} (h : StC l a p s w w' i F) (e : ∀ k q, k ≤ a → q ≤ p → F k q = G k q) : StC l a p s w w' i G :=
  ⟨h.cA, h.cP, h.out, h.cur.congr e, h.lay, h.size, h.bel⟩
theorem StC.done (h : StC l a p s w w' i F) (e : ∀ k q, k ≤ a → q ≤ p → F k q = tabT l i k q) : StB l a p s w w' i :=
  ⟨h.cA, h.cP, h.out, fun i' h1 h2 => by
    by_cases he : i' = i
    · subst he; exact h.cur.congr e
    · exact h.lay i' (by omega) h2, h.size, h.bel⟩
theorem StC.drew (h : StC l a p s w w' i F) (m : Nat) : StC l a p s w (w'.drewN m) i F :=
  ⟨h.cA, h.cP, h.out, h.cur.keep fun _ _ _ => rfl, fun i' h1 h2 => (h.lay i' h1 h2).keep fun _ _ _ => rfl, h.size, pw_below_drewN h.bel m⟩
theorem gapS (n i i' a : Nat) (h : i < i') (h2 : i' ≤ n) : (n - i') * (a + 2) + (a + 2) ≤ (n - i) * (a + 2) := by
  have : (n - i' + 1) * (a + 2) ≤ (n - i) * (a + 2) := Nat.mul_le_mul_right _ (by omega)
  rw [Nat.add_mul, Nat.one_mul] at this
  exact this
theorem StC.put (h : StC l a p s w w' i F) (hi : i ≤ l.length) (k q : Nat) (hk : k ≤ a) (v : Int) :
    StC l a p s w (w'.setCell ⟨s + 3 + (l.length - i) * (a + 2) + 1 + k, q, none⟩ (.int .i64 v)) i (fun k' q' => if k' = k then (if q' = q then v else F k q') else F k' q') := by
  have hne : ∀ b, b ≠ s + 3 + (l.length - i) * (a + 2) + 1 + k → (w'.setCell ⟨s + 3 + (l.length - i) * (a + 2) + 1 + k, q, none⟩ (.int .i64 v)).heap[b]? = w'.heap[b]? := fun b hb => heap_setCell_other _ _ _ _ hb
  refine ⟨?_, ?_, ?_, h.cur.put k q hk v, fun i' h1 h2 => ?_, ?_, ?_⟩
  · exact (World.cell?_of_block (hne s (by omega))).trans h.cA
  · exact (World.cell?_of_block (hne (s + 1) (by omega))).trans h.cP
  · rw [hne (s + 2) (by omega)]; exact h.out
  · refine (h.lay i' h1 h2).keep fun b hb1 hb2 => hne b ?_
    have := gapS l.length i i' a h1 h2
    omega
  · rw [World.size_setCell]; exact h.size
  · exact Below.setCell h.bel (by show s ≤ s + 3 + (l.length - i) * (a + 2) + 1 + k; omega) _
theorem StB.next (h : StB l a p s w w' (i + 1)) (hi : i ≤ l.length) (M : Nat) (hM : M = w'.heap.size) (hL : Lay w2 M a p (fun _ _ => 0)) (hs : w2.heap.size = M + a + 2) (hb : Below M w' w2) :
    StC l a p s w (w2.setCell ⟨s + 2, i, none⟩ (.slice (some ⟨M, 0, none⟩) (a + 1) (a + 1))) i (fun _ _ => 0) := by
  have hsz := h.size
  have e1 : l.length + 1 - (i + 1) = l.length - i := by omega
  have e2 : (l.length + 1 - i) * (a + 2) = (l.length - i) * (a + 2) + (a + 2) := by
    rw [show l.length + 1 - i = l.length - i + 1 by omega, Nat.add_mul, Nat.one_mul]
  rw [e1] at hsz
  have hMv : M = s + 3 + (l.length - i) * (a + 2) := hM.trans hsz
  subst hMv
  have old : ∀ b, b < s + 3 + (l.length - i) * (a + 2) → b ≠ s + 2 → (w2.setCell ⟨s + 2, i, none⟩ (.slice (some ⟨s + 3 + (l.length - i) * (a + 2), 0, none⟩) (a + 1) (a + 1))).heap[b]? = w'.heap[b]? := fun b hb1 hb2 => (heap_setCell_other _ _ _ _ hb2).trans (hb.block b hb1)
  refine ⟨(World.cell?_of_block (old s (by omega) (by omega))).trans h.cA, (World.cell?_of_block (old (s + 1) (by omega) (by omega))).trans h.cP, ?_, ?_, fun i' h1 h2 => ?_, ?_, ?_⟩
  · rw [heap_setCell_same _ _ _ _ _ _ ((hb.block (s + 2) (by omega)).trans h.out), outA_set]
  · exact hL.keep fun b h1 h2 => heap_setCell_other _ _ _ _ (by show b ≠ s + 2; omega)
  · refine (h.lay i' (by omega) h2).keep fun b hb1 hb2 => old b ?_ (by omega)
    have := gapS l.length i i' a h1 h2
    omega
  · rw [World.size_setCell, hs, e2]; omega
  · exact Below.setCell (h.bel.trans (hb.mono (by omega))) (by show s ≤ s + 2; omega) _
end
theorem xOne (i n : Int) (w : World) : Calls Try.prog 34 #[.int .i64 i, .int .i64 n] w fun e w' => e = .returned (.int .i64 1) ∧ w' = w := by
  go_enter Try.func34, Try.ntmps34
  go_wp2
  go_ret
  exact ⟨rfl, rfl⟩
theorem tdiv2 (n : Nat) : Int.tdiv (n : Int) 2 = ((half n : Nat) : Int) := by
  unfold half
  rw [Int.tdiv_eq_ediv_of_nonneg (by omega)]
  omega
theorem whd (n : Nat) (h : n ≤ 20) : wrap64 ((half n : Nat) : Int) = ((half n : Nat) : Int) := by
  unfold wrap64 half
  omega
def xWaysPost (l : List Int) (a p : Nat) (w : World) (e : Ending) (w' : World) : Prop :=
  e = .returned (.slice (some ⟨w.heap.size + 2, 0, none⟩) (l.length + 1) (l.length + 1)) ∧ Aside0 (StB l a p w.heap.size w w' 0)
theorem tabF_end (l : List Int) (i m k p q k' q' : Nat) (hq : p < q) (h : q' ≤ p) : tabF l i m k q k' q' = tabF l i m (k + 1) (half m) k' q' := by
  unfold tabF
  by_cases h1 : k' < k ∨ (k' = k ∧ q' < q)
  · rw [if_pos h1, if_pos (by omega)]
  · rw [if_neg h1]
    by_cases h2 : k' < k + 1 ∨ (k' = k + 1 ∧ q' < half m)
    · rw [if_pos h2, tabP_succ, if_neg (by omega)]; omega
    · rw [if_neg h2]
theorem tabF_over (l : List Int) (i m k q k' q' a : Nat) (h : k' ≤ a) (hk : a < k) : tabF l i m k q k' q' = tabP l i (m + 1) k' q' := if_pos (by omega)
theorem StC.drewn {l : List Int} {a p s i : Nat} {w w' : World} {F : Nat → Nat → Int} (h : StC l a p s w w' i F) : StC l a p s w w'.drew i F :=
  ⟨h.cA, h.cP, h.out, h.cur.keep fun _ _ _ => rfl, fun i' h1 h2 => (h.lay i' h1 h2).keep fun _ _ _ => rfl, h.size, h.bel.drew⟩
theorem cell_keep {w w' : World} {x : Addr} {v : Value} (h : w.cell? x = some v) (hb : Below w.heap.size w w') : w'.cell? x = some v := by
  refine (World.cell?_of_block (hb.block _ ?_)).trans h
  by_cases hlt : x.block < w.heap.size
  · exact hlt
  · have hn : w.heap[x.block]? = none := by simp; omega
    simp [World.cell?, hn] at h
theorem drew2 {w w1 w2 : World} (h1 : Drawn0 w w1) (h2 : Drawn0 w1 w2) : ∃ m, w2 = w.drewN m := by
  obtain ⟨n1, rfl⟩ := h1
  obtain ⟨n2, rfl⟩ := h2
  exact ⟨n1 + n2, by simp⟩
theorem StB.base {l : List Int} {a p : Nat} {w w1 w2 w' : World} (h : StB l a p w2.heap.size w2 w' 0) (h1 : Drawn0 w w1) (h2 : Drawn0 w1 w2) : w2.heap.size = w.heap.size ∧ StB l a p w.heap.size w w' 0 := by
  obtain ⟨m, rfl⟩ := drew2 h1 h2
  exact ⟨rfl, ⟨h.cA, h.cP, h.out, h.lay, h.size, (pw_below_drewN (Below.refl _ _) m).trans h.bel⟩⟩
theorem xTableB (l : List Int) (a p s i : Nat) (w w' : World) (h : StB l a p s w w' (i + 1)) (hi : i ≤ l.length) (ha : a ≤ 160) (hp : p ≤ 80) :
    Calls Try.prog 43 #[.pointer (some ⟨s, 0, none⟩), .pointer (some ⟨s + 1, 0, none⟩)] w' fun e w4 => ∃ M, e = .returned (.slice (some ⟨M, 0, none⟩) (a + 1) (a + 1)) ∧ Aside0 (StC l a p s w (w4.setCell ⟨s + 1 + 1, i, none⟩ (.slice (some ⟨M, 0, none⟩) (a + 1) (a + 1))) i (fun _ _ => 0)) ∧ Aside0 (M = s + 3 + (l.length - i) * (a + 2)) ∧ w4.cell? ⟨s + 1 + 1, i, none⟩ = some (.slice none 0 0) ∧ w4.frozen? ⟨s + 1 + 1, i, none⟩ = false := by
  refine (xTable s (s + 1) a p w' h.cA h.cP ha hp).mono ?_
  rintro e w4 ⟨rfl, ⟨hL, hs, hb⟩⟩
  have hsz := h.size
  have e1 : l.length + 1 - (i + 1) = l.length - i := by omega
  rw [e1] at hsz
  have ho : w4.heap[s + 2]? = some (.cells (outA l.length (i + 1) a s) 36 (0, 0)) := (hb.block (s + 2) (by omega)).trans h.out
  refine ⟨_, rfl, ⟨h.next hi _ rfl hL hs hb⟩, ⟨hsz⟩, ?_, frozen_of_row _ _ _ _ _ ho⟩
  have := cell_of ho (outA_get _ _ _ _ _ hi)
  rw [if_neg (by omega)] at this
  exact this
theorem StB.start (l : List Int) (a p : Nat) (w : World) :
    StB l a p w.heap.size w (((w.alloc (.cells #[.int .i64 (a : Int)] 3)).alloc (.cells #[.int .i64 (p : Int)] 3)).alloc (.cells (midA (l.length + 1) 0 0 0) 36)) (l.length + 1) := by
  have s0 : (w.alloc (.cells #[.int .i64 (a : Int)] 3)).heap.size = w.heap.size + 1 := by simp
  have s1 : ((w.alloc (.cells #[.int .i64 (a : Int)] 3)).alloc (.cells #[.int .i64 (p : Int)] 3)).heap.size = w.heap.size + 2 := by simp
  have hA : (((w.alloc (.cells #[.int .i64 (a : Int)] 3)).alloc (.cells #[.int .i64 (p : Int)] 3)).alloc (.cells (midA (l.length + 1) 0 0 0) 36)).heap[w.heap.size]? = some (.cells #[.int .i64 (a : Int)] 3 (0, 0)) := by
    rw [Below.heap_alloc _ _ _ (by omega), Below.heap_alloc _ _ _ (by omega)]; exact heap_new _ _
  have hP : (((w.alloc (.cells #[.int .i64 (a : Int)] 3)).alloc (.cells #[.int .i64 (p : Int)] 3)).alloc (.cells (midA (l.length + 1) 0 0 0) 36)).heap[w.heap.size + 1]? = some (.cells #[.int .i64 (p : Int)] 3 (0, 0)) := by
    rw [Below.heap_alloc _ _ _ (by omega), ← s0]; exact heap_new _ _
  refine ⟨cell_of hA rfl, cell_of hP rfl, ?_, fun i h1 h2 => absurd h1 (by omega), by simp, Below.alloc (Below.alloc (Below.alloc (Below.refl _ _) (Nat.le_refl _) _) (by omega) _) (by omega) _⟩
  rw [← outA_nil, ← s1]; exact heap_new _ _
set_option maxHeartbeats 8000000 in
set_option maxRecDepth 100000 in
theorem xWays (k0 : Nat) (A0 : Option Addr) (c0 : Nat) (l0 : List Int) (a p : Nat) (w : World) (hr0 : Kd.C (Kd.int .i64) w A0 l0.length l0) (hc0 : l0.length ≤ c0) (hg : GoodL l0) (ht : impl_total.f k0 l0 = some (a : Int)) (hp : impl_pairsOf.f k0 l0 = some (p : Int)) (ha : a ≤ 160) (hpp : p ≤ 80) :
    Calls Try.prog 33 #[.slice A0 l0.length c0, .func (.func 34) #[] #[]] w (xWaysPost l0 a p w) := by
  have HT := fun W hr => impl_total.calls k0 A0 c0 l0 a W hr hc0 ht
  have HPp := fun W hr => impl_pairsOf.calls k0 A0 c0 l0 p W hr hc0 hp
  have hmf : ∀ (fn : Fn) (first cap : Array Value) (w : World), (Instr.makeFunc fn first cap).run Try.prog w = .ok (.func fn first cap) w := fun _ _ _ _ => rfl
  have hlen : l0.length ≤ 8 := hg.1
  have mo : ∀ W : World, (Instr.makeSlice 37 (.int .i64 ((l0.length : Int) + 1)) (.int .i64 ((l0.length : Int) + 1))).run Try.prog W = .ok (.slice (some ⟨W.heap.size, 0, none⟩) (l0.length + 1) (l0.length + 1)) (W.alloc (.cells (midA (l0.length + 1) 0 0 0) 36)) := fun W => mk_out W (l0.length + 1) (by omega)
  have HR0 := Aside0.mk hr0
  clear hr0
  go_enter Try.func33, Try.ntmps33
  go_wp2_with (first | (go_at_call 21; refine (HT _ HR0.out).mono ?_; rintro e w1 ⟨rfl, hd1⟩; have HD1 := Aside0.mk hd1; clear hd1) | (go_at_call 25; refine (HPp _ (by obtain ⟨nd, hnd⟩ := HD1.out; rw [hnd]; exact Kd.C_drewN HR0.out _)).mono ?_; rintro e w2 ⟨rfl, hd2⟩; have HD2 := Aside0.mk hd2; clear hd2) | (go_at_call 43; refine (xTableB l0 a p w2.heap.size l0.length w2 _ (StB.start l0 a p w2) (Nat.le_refl _) ha hpp).mono ?_; rintro e w4 ⟨M, rfl, HC4, HM, hn1, hn2⟩; have g1 := HC4.out.cur.at_mid 0 (Nat.zero_le _); rw [← HM.out] at g1; have g2 := HC4.out.cur.at_row 0 0 (Nat.zero_le _) (Nat.zero_le _); rw [← HM.out] at g2; have g3 := frozen_of_row _ _ 0 _ _ (HC4.out.cur.row 0 (Nat.zero_le _)); rw [← HM.out] at g3; rw [Nat.add_zero] at g1 g2 g3))
  have HR2 : Aside0 (Kd.C (Kd.int .i64) w2 A0 l0.length l0) := ⟨by obtain ⟨m, hm⟩ := drew2 HD1.out HD2.out; rw [hm]; exact Kd.C_drewN HR0.out _⟩
  clear hn1 hn2 g1 g2 g3
  go_loopw [9] (fun v w' => (v = .int .i64 (-1) ∧ Aside0 (StB l0 a p w2.heap.size w2 w' 0)) ∨ ∃ i : Nat, i < l0.length ∧ v = .int .i64 i ∧ Aside0 (StB l0 a p w2.heap.size w2 w' (i + 1))) (fun v _ => (intOf v + 1).toNat)
  case atStart =>
    have hB : StB l0 a p w2.heap.size w2 ((w4.setCell ⟨w2.heap.size + 1 + 1, l0.length, none⟩ (.slice (some ⟨M, 0, none⟩) (a + 1) (a + 1))).setCell ⟨M + 1, 0, none⟩ (.int .i64 1)) l0.length := by
      have h1 := HC4.out.put (Nat.le_refl _) 0 0 (Nat.zero_le _) 1
      rw [← HM.out, Nat.add_zero] at h1
      refine h1.done fun k q hk hq => ?_
      rw [tabT_end]
      by_cases hk0 : k = 0
      · by_cases hq0 : q = 0
        · rw [if_pos hk0, if_pos hq0, if_pos ⟨hk0, hq0⟩]
        · rw [if_pos hk0, if_neg hq0, if_neg (fun h => hq0 h.2)]
      · rw [if_neg hk0, if_neg (fun h => hk0 h.1)]
    cases hn : l0.length with
    | zero => exact .inl ⟨by simp, ⟨by rw [hn] at hB; exact hB⟩⟩
    | succ i => exact .inr ⟨i, by omega, by simp, ⟨by rw [hn] at hB; exact hB⟩⟩
  case round =>
    rcases hrel with ⟨rfl, HB⟩ | ⟨i, hi, rfl, HB⟩
    · obtain ⟨e1, HE⟩ := HB.out.base HD1.out HD2.out
      go_wp2
      go_ret
      exact ⟨by rw [e1]; rfl, ⟨HE⟩⟩
    · have hi0 : (0 : Int) ≤ (i : Int) := by omega
      have hi1 : (i : Int) < (l0.length : Int) := by omega
      obtain ⟨ad, rfl, hx0⟩ := Kd.at_int HR2.out (i : Int) hi0 hi1
      have hmem := hg.2 l0[i] (List.getElem_mem hi)
      obtain ⟨m, hm⟩ : ∃ m : Nat, l0[i] = (m : Int) := ⟨l0[i].toNat, by omega⟩
      have hrd : rd l0 (i : Int) = (m : Int) := by simp [rd, hi, hm]
      rw [hrd] at hx0
      have hx : w2.cell? (ad.add i) = some (.int .i64 (m : Int)) := hx0
      clear hx0
      have hm20 : m ≤ 20 := by omega
      go_wp2_with (go_at_call 43; refine (xTableB l0 a p w2.heap.size i w2 _ HB.out (by omega) ha hpp).mono ?_; rintro e w5 ⟨M, rfl, HC5, HM, hn1, hn2⟩; have hx1 : (w5.setCell ⟨w2.heap.size + 1 + 1, i, none⟩ (.slice (some ⟨M, 0, none⟩) (a + 1) (a + 1))).cell? (ad.add i) = some (.int .i64 (m : Int)) := cell_keep hx HC5.out.bel)
      go_loopw [54] (fun v w' => ∃ d : Nat, d ≤ m + 1 ∧ v = .int .i64 d ∧ Aside0 (StC l0 a p w2.heap.size w2 w' i (tabP l0 i d))) (fun v _ => m + 1 - (intOf v).toNat)
      case atStart => exact ⟨0, by omega, rfl, HC5⟩
      case round =>
        clear HC5 hx1 hn1 hn2 HM
        obtain ⟨d, hd, rfl, HC⟩ := hrel
        by_cases hlt : d < m + 1
        · go_wp2_with (go_at_call 34; refine (xOne _ _ _).mono ?_; rintro e w6 ⟨rfl, rfl⟩)
          go_loopw [12] (fun v w' => ∃ k : Nat, d ≤ k ∧ (k ≤ a + 1 ∨ k = d) ∧ v = .int .i64 k ∧ Aside0 (StC l0 a p w2.heap.size w2 w' i (tabF l0 i d k (half d)))) (fun v _ => a + 1 - (intOf v).toNat)
          case atStart => exact ⟨d, Nat.le_refl _, .inr rfl, rfl, ⟨HC.out.congr fun k q _ _ => tabF_start l0 i d k q⟩⟩
          case round =>
            clear HC
            obtain ⟨k, hdk, hk, rfl, HC⟩ := hrel
            have hcA := HC.out.cA
            by_cases hka : (k : Int) ≤ (a : Int)
            · have hq2 := tdiv2 d
              go_wp2
              go_loopw [13] (fun v w' => ∃ q : Nat, half d ≤ q ∧ (q ≤ p + 1 ∨ q = half d) ∧ v = .int .i64 q ∧ Aside0 (StC l0 a p w2.heap.size w2 w' i (tabF l0 i d k q))) (fun v _ => p + 1 - (intOf v).toNat)
              case atStart => exact ⟨half d, Nat.le_refl _, .inr rfl, by rw [whd d (by omega)], HC⟩
              case round =>
                clear HC hcA
                obtain ⟨q, hdq, hq, rfl, HC⟩ := hrel
                have hcP := HC.out.cP
                by_cases hqp : (q : Int) ≤ (p : Int)
                · have hka' : k ≤ a := by omega
                  have hqp' : q ≤ p := by omega
                  obtain ⟨x, hx⟩ : ∃ x, x = tabF l0 i d k q k q := ⟨_, rfl⟩
                  obtain ⟨y, hy⟩ : ∃ y, y = tabT l0 (i + 1) (k - d) (q - half d) := ⟨_, rfl⟩
                  have hxb : 0 ≤ x ∧ x ≤ 794280046581 := by rw [hx, tabF_at]; exact tabP_bd hg i d k q (by omega)
                  have hyb : 0 ≤ y ∧ y ≤ 37822859361 := by rw [hy]; exact tabT_bd hg _ _ _
                  obtain ⟨X, hX⟩ : ∃ X, X = w2.heap.size + 3 + (l0.length - i) * (a + 2) := ⟨_, rfl⟩
                  obtain ⟨Y, hY⟩ : ∃ Y, Y = w2.heap.size + 3 + (l0.length - (i + 1)) * (a + 2) := ⟨_, rfl⟩
                  obtain ⟨X2, hX2⟩ : ∃ X2, X2 = X + 1 + k := ⟨_, rfl⟩
                  obtain ⟨Y2, hY2⟩ : ∃ Y2, Y2 = Y + 1 + (k - d) := ⟨_, rfl⟩
                  have hLX := HC.out.cur
                  rw [← hX] at hLX
                  have hLY := HC.out.lay (i + 1) (by omega) (by omega)
                  rw [← hY] at hLY
                  have f1 : wr.cell? ⟨w2.heap.size + 1 + 1, i, none⟩ = some (.slice (some ⟨X, 0, none⟩) (a + 1) (a + 1)) := by
                    have := cell_of HC.out.out (outA_get _ _ _ _ i (by omega))
                    rw [if_pos (Nat.le_refl _), ← hX] at this
                    exact this
                  have f2 : wr.cell? ⟨X, k, none⟩ = some (.slice (some ⟨X2, 0, none⟩) (p + 1) (p + 1)) := by rw [hX2]; exact hLX.at_mid k hka'
                  have f3 : wr.cell? ⟨X2, q, none⟩ = some (.int .i64 x) := by rw [hX2, hx]; exact hLX.at_row k q hka' hqp'
                  have f4 : wr.cell? ⟨w2.heap.size + 1 + 1, i + 1, none⟩ = some (.slice (some ⟨Y, 0, none⟩) (a + 1) (a + 1)) := by
                    have := cell_of HC.out.out (outA_get _ _ _ _ (i + 1) (by omega))
                    rw [if_pos (by omega), ← hY] at this
                    exact this
                  have f5 : wr.cell? ⟨Y, k - d, none⟩ = some (.slice (some ⟨Y2, 0, none⟩) (p + 1) (p + 1)) := by rw [hY2]; exact hLY.at_mid (k - d) (by omega)
                  have f6 : wr.cell? ⟨Y2, q - half d, none⟩ = some (.int .i64 y) := by rw [hY2, hy]; exact hLY.at_row (k - d) (q - half d) (by omega) (by omega)
                  have f7 : wr.frozen? ⟨X2, q, none⟩ = false := by rw [hX2]; exact frozen_of_row _ _ _ _ _ (hLX.row k hka')
                  have HX := Aside0.mk (And.intro hX hX2)
                  have Hx := Aside0.mk hx
                  have Hy := Aside0.mk hy
                  clear hLX hLY hX hY hX2 hY2 hx hy
                  go_wp2
                  go_region
                  go_wp2
                  go_roundw
                  case rel =>
                    have h1 := HC.out.put (by omega) k q hka' (x + y)
                    rw [← HX.out.1, ← HX.out.2] at h1
                    refine ⟨q + 1, by omega, .inl (by omega), by go_num, ⟨(h1.drewn).congr fun k' q' _ _ => ?_⟩⟩
                    rw [← tabF_put l0 i d k q k' q' hdk hdq, ← Hx.out, ← Hy.out]
                  case measure => simp [intOf] <;> omega
                · have HC2 : StC l0 a p w2.heap.size w2 wr i (tabF l0 i d (k + 1) (half d)) := HC.out.congr fun k' q' _ hq' => tabF_end l0 i d k p q k' q' (by omega) hq'
                  go_wp2
                  go_roundw
                  case rel => exact ⟨k + 1, by omega, .inl (by omega), by go_num, ⟨HC2⟩⟩
                  case measure => simp [intOf] <;> omega
            · have HC2 : StC l0 a p w2.heap.size w2 wr i (tabP l0 i (d + 1)) := HC.out.congr fun k' q' hk' _ => tabF_over l0 i d k _ k' q' a hk' (by omega)
              go_wp2
              go_roundw
              case rel => exact ⟨d + 1, by omega, by go_num, ⟨HC2⟩⟩
              case measure => simp [intOf] <;> omega
        · obtain rfl : d = m + 1 := by omega
          have HB2 : StB l0 a p w2.heap.size w2 wr i := HC.out.done fun k q _ _ => by
            rw [← tabP_all i k q hi (by omega), hm]; rfl
          go_wp2
          go_roundw
          case rel =>
            cases hi' : i with
            | zero => exact .inl ⟨by simp, ⟨by rw [hi'] at HB2; exact HB2⟩⟩
            | succ j => exact .inr ⟨j, by omega, by simp, ⟨by rw [hi'] at HB2; exact HB2⟩⟩
          case measure => simp [intOf] <;> omega
/-! #### the table as rows of rows of rows -/
theorem R_of_fn {α : Type} (d : Kd α) (hd : d.sz = 1) {w : World} {base g n e : Nat} {cs : Array Value} {ok : Nat → Prop} (f : Nat → α) (hb : base ≤ g) (hh : w.heap[g]? = some (.cells cs e (0, 0))) (hn : cs.size = n) (hm : n ≤ maxLen) (hok : ok g)
    (hel : ∀ j : Nat, j < n → ∃ v, cs[j]? = some v ∧ d.M w base (fun k => ok k ∧ k ≠ g) (f j) [v]) : d.R e w base ok (.slice (some ⟨g, 0, none⟩) n n) ((List.range n).map f) := by
  refine ⟨fun k hk => ?_, cs.toList, ⟨?_, .inr ⟨g, n, cs, by simp, hb, hh, by simp, hm, by rw [hd]; omega, ?_⟩⟩, ?_, fun j x hj => ?_⟩
  · have : g = k := by simpa [Value.ownBlock] using hk
    subst this; exact hok
  · rw [hd, Array.length_toList]; simp; omega
  · rw [hd, Nat.mul_one, List.take_of_length_le (by rw [Array.length_toList]; simp; omega)]
  · rw [hd, Array.length_toList]; simp; omega
  · have hjn : j < n := by
      have := (List.getElem?_eq_some_iff.1 hj).1
      simpa using this
    have hx : x = f j := by
      simp [hjn] at hj
      exact hj.symm
    subst hx
    obtain ⟨v, hv, hM⟩ := hel j hjn
    rw [hd, Nat.mul_one]
    have e1 : (cs.toList.drop j).take 1 = [v] := by
      have hl : j < cs.toList.length := by
        rw [Array.length_toList]
        exact (Array.getElem?_eq_some_iff.1 hv).1
      rw [List.drop_eq_getElem_cons hl]
      simp only [List.take_succ_cons, List.take_zero, Array.getElem_toList]
      rw [(Array.getElem?_eq_some_iff.1 hv).2]
    rw [e1]
    refine d.M_mono (fun k hk => ⟨hk.1, fun h => hk.2 ?_⟩) hM
    simp only [Value.ownBlock, Option.some.injEq] at h
    exact h
/-- All of it. -/
def waysT (l : List Int) (a p : Nat) : List (List (List Int)) := (List.range (l.length + 1)).map fun i => (List.range (a + 1)).map fun k => (List.range (p + 1)).map fun q => tabT l i k q
theorem StB.R {l : List Int} {a p s : Nat} {w w' : World} (h : StB l a p s w w' 0) (hl : l.length ≤ 8) (ha : a ≤ 160) (hp : p ≤ 80) :
    Kd.R (Kd.slice 22 (Kd.slice 3 (Kd.int .i64))) 36 w' s (fun _ => True) (.slice (some ⟨s + 2, 0, none⟩) (l.length + 1) (l.length + 1)) (waysT l a p) := by
  refine R_of_fn _ rfl _ (by omega) h.out (by simp [outA]) (by unfold maxLen; omega) trivial fun i hi => ?_
  have hL := h.lay i (Nat.zero_le _) (by omega)
  refine ⟨_, outA_get _ _ _ _ _ (by omega), ?_⟩
  rw [if_pos (Nat.zero_le _)]
  refine ⟨_, rfl, R_of_fn _ rfl _ (by omega) hL.mid (by simp [midA]) (by unfold maxLen; omega) ⟨trivial, by omega⟩ fun k hk => ?_⟩
  refine ⟨_, midA_get _ _ _ _ _ hk, ?_⟩
  rw [if_pos hk]
  refine ⟨_, rfl, R_of_fn _ rfl _ (by omega) (hL.row k (by omega)) (by simp [rowA]) (by unfold maxLen; omega) ⟨⟨trivial, by omega⟩, by omega⟩ fun q hq => ?_⟩
  exact ⟨_, rowA_get _ _ _ hq, rfl⟩
/-- The table that waysOf makes where every weight is one. -/
def impl_draws.f (k : Nat) (l0 : List Int) : Option (List (List (List Int))) :=
  (impl_total.f k l0).bind fun a => (impl_pairsOf.f k l0).bind fun p =>
    if (l0.length ≤ 8 ∧ ∀ x ∈ l0, 0 ≤ x ∧ x ≤ 20) ∧ 0 ≤ a ∧ a ≤ 160 ∧ 0 ≤ p ∧ p ≤ 80 then some (waysT l0 a.toNat p.toNat) else none
theorem impl_draws.mono : ∀ a0 k, LeO (impl_draws.f k a0) (impl_draws.f (k + 1) a0) := by
  intro l k r h
  unfold impl_draws.f at h ⊢
  cases h1 : impl_total.f k l with
  | none => rw [h1] at h; simp at h
  | some a =>
    cases h2 : impl_pairsOf.f k l with
    | none => rw [h1, h2] at h; simp at h
    | some p =>
      rw [h1, h2] at h
      rw [impl_total.mono l k a h1, impl_pairsOf.mono l k p h2]
      exact h
theorem impl_draws.calls (k : Nat) (A0 : Option Addr) (c0 : Nat) (l0 : List Int) (r : List (List (List Int))) (w : World) (hr0 : Kd.C (Kd.int .i64) w A0 l0.length l0) (hc0 : l0.length ≤ c0) (h : impl_draws.f k l0 = some r) :
    Calls Try.prog 22 #[.slice A0 l0.length c0] w fun e w' => ∃ v0_ : Value, e = .returned (v0_) ∧ Kd.R (Kd.slice 22 (Kd.slice 3 (Kd.int .i64))) 36 w' w.heap.size (fun _ => True) v0_ r ∧ Below w.heap.size w w' := by
  unfold impl_draws.f at h
  cases h1 : impl_total.f k l0 with
  | none => rw [h1] at h; simp at h
  | some a =>
    cases h2 : impl_pairsOf.f k l0 with
    | none => rw [h1, h2] at h; simp at h
    | some p =>
      rw [h1, h2] at h
      simp only [Option.bind_some] at h
      by_cases hg : (l0.length ≤ 8 ∧ ∀ x ∈ l0, 0 ≤ x ∧ x ≤ 20) ∧ 0 ≤ a ∧ a ≤ 160 ∧ 0 ≤ p ∧ p ≤ 80
      · rw [if_pos hg] at h
        obtain rfl := Option.some.inj h
        clear h
        obtain ⟨hg, ha0, ha, hp0, hp⟩ := hg
        obtain ⟨a, rfl⟩ := Int.eq_ofNat_of_zero_le ha0
        obtain ⟨p, rfl⟩ := Int.eq_ofNat_of_zero_le hp0
        simp only [Int.toNat_natCast]
        have HW := fun W hr => xWays k A0 c0 l0 a p W hr hc0 hg h1 h2 (by omega) (by omega)
        have HR0 := Aside0.mk hr0
        clear hr0
        go_enter Try.func22, Try.ntmps22
        go_wp2_with (go_at_call 33; refine (HW _ HR0.out).mono ?_; rintro e w' ⟨rfl, HB⟩)
        go_ret
        exact ⟨_, rfl, HB.out.R hg.1 (by omega) (by omega), HB.out.bel⟩
      · rw [if_neg hg] at h
        exact absurd h (by simp)


/-! ### impl_CountDraws: function 8 -/
def impl_CountDraws.j0 : Nat → List Int → Int → Bool → Option (Int × Bool)
 | 0, _, _, _ => none
 | k + 1, x0, x1, x13 => if x13 = true then (some (0, false)) else ((impl_total.f k x0).bind fun t107 => (if x1 > t107 then (some (0, true)) else ((impl_draws.f k x0).bind fun t108 => (if 0 < (t108.length : Int) then (if 0 ≤ x1 then (if x1 < ((rd_L2 t108 0).length : Int) then ((impl_total.f k (rd_L1 (rd_L2 t108 0) x1)).bind fun t113 => (if t113 > 1000000000000 then (some (0, false)) else (some (t113, true)))) else (none)) else (none)) else (none)))))
def impl_CountDraws.f (k : Nat) (l0 : List Int) (a1 : Int) : Option (Int × Bool) := (impl_AreSocks.f k l0).bind fun t106 => (if t106 = true then (impl_CountDraws.j0 k l0 a1 (decide (a1 < 0))) else (impl_CountDraws.j0 k l0 a1 true))
theorem impl_CountDraws.mono_l : ∀ k, (∀ y0 y1 y2, LeO (impl_CountDraws.j0 k y0 y1 y2) (impl_CountDraws.j0 (k + 1) y0 y1 y2))
 | 0 => fun _ _ _ r h => by simp [impl_CountDraws.j0] at h
 | k + 1 => by
  have ih0 := impl_CountDraws.mono_l k
  ·intro y0 y1 y2
   unfold impl_CountDraws.j0
   repeat' first
   | (with_reducible exact ih0 _ _ _)
   | (with_reducible exact impl_AreSocks.mono _ _)
   | (with_reducible exact impl_draws.mono _ _)
   | (with_reducible exact impl_total.mono _ _)
   | (with_reducible exact LeO.refl _)
   | (with_reducible exact LeO.none _)
   | (with_reducible refine LeO.ite ?_ ?_)
   | (with_reducible refine LeO.bind ?_ (fun _ => ?_))
   | exact ih0 _ _ _
   | exact impl_AreSocks.mono _ _
   | exact impl_draws.mono _ _
   | exact impl_total.mono _ _
   | exact LeO.none _
   | refine LeO.ite ?_ ?_
   | refine LeO.bind ?_ (fun _ => ?_)
theorem impl_CountDraws.mono : ∀ a0 a1 k, LeO (impl_CountDraws.f k a0 a1) (impl_CountDraws.f (k + 1) a0 a1) := by
 intro a0 a1 k
 have ih0 := impl_CountDraws.mono_l k
 unfold impl_CountDraws.f
 repeat' first
   | (with_reducible exact ih0 _ _ _)
   | (with_reducible exact impl_AreSocks.mono _ _)
   | (with_reducible exact impl_draws.mono _ _)
   | (with_reducible exact impl_total.mono _ _)
   | (with_reducible exact LeO.refl _)
   | (with_reducible exact LeO.none _)
   | (with_reducible refine LeO.ite ?_ ?_)
   | (with_reducible refine LeO.bind ?_ (fun _ => ?_))
   | exact ih0 _ _ _
   | exact impl_AreSocks.mono _ _
   | exact impl_draws.mono _ _
   | exact impl_total.mono _ _
   | exact LeO.none _
   | refine LeO.ite ?_ ?_
   | refine LeO.bind ?_ (fun _ => ?_)
set_option maxHeartbeats 8000000 in
set_option maxRecDepth 100000 in
theorem impl_CountDraws.calls (k : Nat) (A0 : Option Addr) (c0 : Nat) (l0 : List Int) (a1 : Int) (r1 : Int) (r2 : Bool) (w : World) (hr0 : Kd.C (Kd.int .i64) w A0 l0.length l0) (hc0 : l0.length ≤ c0) (h : impl_CountDraws.f k l0 a1 = some (r1, r2)) :
  Calls Try.prog 8 #[.slice A0 l0.length c0, .int .i64 a1] w fun e w' => e = .returned (.tuple #[.int .i64 r1, .bool r2]) ∧ Below w.heap.size w w' := by
 have HR0 := Aside0.mk hr0
 have HC0 := Aside0.mk hc0
 clear hr0 hc0
 have HB := Aside0.mk (Below.refl w.heap.size w)
 have H : ((impl_AreSocks.f k l0).bind fun t106 => (if t106 = true then (impl_CountDraws.j0 k l0 a1 (decide (a1 < 0))) else (impl_CountDraws.j0 k l0 a1 true))) = some (r1, r2) := h
 clear h
 have HC3 := Aside0.mk H
 clear H
 go_enter Try.func8, Try.ntmps8
 go_upto_region 1 with (fail)
 go_cut [13] (fun v13 wc => ∃ (kq : Nat) (x13_2 : Bool), v13 = .bool x13_2 ∧ Aside0 (impl_CountDraws.j0 kq l0 a1 x13_2 = some (r1, r2)) ∧ Aside0 (kq ≤ k) ∧ Aside0 (Below w.heap.size w wc))
 case first =>
  have H := HC3.1
  clear HC3
  replace H := Option.bind_eq_some_iff.mp H
  obtain ⟨t106, A40, H⟩ := H
  replace H : (if t106 = true then (impl_CountDraws.j0 k l0 a1 (decide (a1 < 0))) else (impl_CountDraws.j0 k l0 a1 true)) = some (r1, r2) := H
  have A4 := Aside0.mk A40
  clear A40
  by_cases c5 : t106 = true
  ·subst c5
   have H1 : (impl_CountDraws.j0 k l0 a1 (decide (a1 < 0))) = some (r1, r2) := by rw [if_pos rfl] at H; exact H
   clear H
   have H := H1
   clear H1
   have H' := Aside0.mk H
   clear H
   go_wp2_with (first | ((with_reducible refine gate_callee (f := 20) rfl ?_); refine goesL_ (some 8) rfl rfl Try.func20 (by kernel_rfl) rfl #[.slice A0 l0.length c0] rfl (by (try simp only [List.map_toArray, List.map_cons, List.map_nil]); first | done | rfl | (simp only [List.length_drop, List.length_take]; rfl)) ?_; (with_reducible refine (impl_AreSocks.calls k _ _ l0 true _ ?side1 ?side2 A4.1).mono ?_); (case side1 => repeat (first | exact (Kd.C_below HR0.1 HB.1) | (with_reducible refine Kd.C_alloc ?_ _) | (with_reducible refine Kd.C_drewN ?_ _) | (with_reducible refine Kd.C_drew ?_))); (case side2 => exact HC0.1); rintro e w6 ⟨rfl, hb⟩; refine ⟨_, rfl, ?_⟩; have n0_ := Aside0.mk (below_step (by repeat (first | (with_reducible first | exact HB.1 | apply below_alloc | apply pw_below_drewN | apply below_drew1) | exact HB.1)) hb); clear HB; have HB := n0_; clear n0_; (try clear hb); (try clear hb2); (try clear hk); (try clear hi)))
   go_meet
   case rel => exact ⟨_, (decide (a1 < 0)), (by first | rfl | (simp; done) | (simp [*]; done) | (simp [Go.IntWalk.i64_left]; done)), H', ⟨by first | omega | exact Nat.le_refl _⟩, ⟨by repeat (first | (with_reducible first | exact HB.1 | apply below_alloc | apply pw_below_drewN | apply below_drew1) | exact HB.1)⟩⟩
  ·replace c5 := Bool.eq_false_iff.mpr c5
   subst c5
   have H1 : (impl_CountDraws.j0 k l0 a1 true) = some (r1, r2) := by rw [if_neg (show ¬ (false = true) by decide)] at H; exact H
   clear H
   have H := H1
   clear H1
   have H' := Aside0.mk H
   clear H
   go_wp2_with (first | ((with_reducible refine gate_callee (f := 20) rfl ?_); refine goesL_ (some 8) rfl rfl Try.func20 (by kernel_rfl) rfl #[.slice A0 l0.length c0] rfl (by (try simp only [List.map_toArray, List.map_cons, List.map_nil]); first | done | rfl | (simp only [List.length_drop, List.length_take]; rfl)) ?_; (with_reducible refine (impl_AreSocks.calls k _ _ l0 false _ ?side1 ?side2 A4.1).mono ?_); (case side1 => repeat (first | exact (Kd.C_below HR0.1 HB.1) | (with_reducible refine Kd.C_alloc ?_ _) | (with_reducible refine Kd.C_drewN ?_ _) | (with_reducible refine Kd.C_drew ?_))); (case side2 => exact HC0.1); rintro e w7 ⟨rfl, hb⟩; refine ⟨_, rfl, ?_⟩; have n0_ := Aside0.mk (below_step (by repeat (first | (with_reducible first | exact HB.1 | apply below_alloc | apply pw_below_drewN | apply below_drew1) | exact HB.1)) hb); clear HB; have HB := n0_; clear n0_; (try clear hb); (try clear hb2); (try clear hk); (try clear hi)))
   go_meet
   case rel => exact ⟨_, (true), (by first | rfl | (simp; done) | (simp [*]; done) | (simp [Go.IntWalk.i64_left]; done)), H', ⟨by first | omega | exact Nat.le_refl _⟩, ⟨by repeat (first | (with_reducible first | exact HB.1 | apply below_alloc | apply pw_below_drewN | apply below_drew1) | exact HB.1)⟩⟩
 case rest =>
  clear HC3
  try clear c2
  try clear p2
  try clear c5
  obtain ⟨kq, x13_2, rfl, HA, HJ2, HB⟩ := hcut
  cases kq with
  | zero => exact absurd HA.1 (by simp [impl_CountDraws.j0])
  | succ kj2 =>
   have H := HA.1
   clear HA
   simp only [impl_CountDraws.j0] at H
   by_cases c8 : x13_2 = true
   ·subst c8
    have H1 : (some (0, false)) = some (r1, r2) := by rw [if_pos rfl] at H; exact H
    clear H
    have H := H1
    clear H1
    simp only [Option.some.injEq, Prod.mk.injEq] at H
    obtain ⟨rfl, rfl⟩ := H
    go_wp2
    go_ret2
    exact ⟨by first | rfl | (simp [errW_none, errW_some] <;> rfl) | (simp [Go.IntWalk.i64_left]; done) | (simp [*, errW_none, errW_some] <;> rfl), by repeat (first | (with_reducible first | exact HB.1 | apply below_alloc | apply pw_below_drewN | apply below_drew1) | exact HB.1)⟩
   ·replace c8 := Bool.eq_false_iff.mpr c8
    subst c8
    have H1 : ((impl_total.f kj2 l0).bind fun t107 => (if a1 > t107 then (some (0, true)) else ((impl_draws.f kj2 l0).bind fun t108 => (if 0 < (t108.length : Int) then (if 0 ≤ a1 then (if a1 < ((rd_L2 t108 0).length : Int) then ((impl_total.f kj2 (rd_L1 (rd_L2 t108 0) a1)).bind fun t113 => (if t113 > 1000000000000 then (some (0, false)) else (some (t113, true)))) else (none)) else (none)) else (none))))) = some (r1, r2) := by rw [if_neg (show ¬ (false = true) by decide)] at H; exact H
    clear H
    have H := H1
    clear H1
    replace H := Option.bind_eq_some_iff.mp H
    obtain ⟨t107, A90, H⟩ := H
    replace H : (if a1 > t107 then (some (0, true)) else ((impl_draws.f kj2 l0).bind fun t108 => (if 0 < (t108.length : Int) then (if 0 ≤ a1 then (if a1 < ((rd_L2 t108 0).length : Int) then ((impl_total.f kj2 (rd_L1 (rd_L2 t108 0) a1)).bind fun t113 => (if t113 > 1000000000000 then (some (0, false)) else (some (t113, true)))) else (none)) else (none)) else (none)))) = some (r1, r2) := H
    have A9 := Aside0.mk A90
    clear A90
    by_cases c10 : a1 > t107
    ·rw [if_pos c10] at H
     have c10b0 : decide (t107 < a1) = true := decide_eq_true c10
     clear c10
     simp only [Option.some.injEq, Prod.mk.injEq] at H
     obtain ⟨rfl, rfl⟩ := H
     go_wp2_with (first | ((with_reducible refine gate_callee (f := 21) rfl ?_); refine goesL_ (some 16) rfl rfl Try.func21 (by kernel_rfl) rfl #[.slice A0 l0.length c0] rfl (by (try simp only [List.map_toArray, List.map_cons, List.map_nil]); first | done | rfl | (simp only [List.length_drop, List.length_take]; rfl)) ?_; (with_reducible refine (impl_total.calls kj2 _ _ l0 t107 _ ?side1 ?side2 A9.1).mono ?_); (case side1 => repeat (first | exact (Kd.C_below HR0.1 HB.1) | (with_reducible refine Kd.C_alloc ?_ _) | (with_reducible refine Kd.C_drewN ?_ _) | (with_reducible refine Kd.C_drew ?_))); (case side2 => exact HC0.1); rintro e w' ⟨rfl, ⟨nd, rfl⟩⟩; refine ⟨_, rfl, ?_⟩))
     go_ret2
     exact ⟨by first | rfl | (simp [errW_none, errW_some] <;> rfl) | (simp [Go.IntWalk.i64_left]; done) | (simp [*, errW_none, errW_some] <;> rfl), by repeat (first | (with_reducible first | exact HB.1 | apply below_alloc | apply pw_below_drewN | apply below_drew1) | exact HB.1)⟩
    ·rw [if_neg c10] at H
     have c10b0 : decide (t107 < a1) = false := decide_eq_false c10
     clear c10
     replace H := Option.bind_eq_some_iff.mp H
     obtain ⟨t108, A110, H⟩ := H
     replace H : (if 0 < (t108.length : Int) then (if 0 ≤ a1 then (if a1 < ((rd_L2 t108 0).length : Int) then ((impl_total.f kj2 (rd_L1 (rd_L2 t108 0) a1)).bind fun t113 => (if t113 > 1000000000000 then (some (0, false)) else (some (t113, true)))) else (none)) else (none)) else (none)) = some (r1, r2) := H
     have A11 := Aside0.mk A110
     clear A110
     by_cases c12 : 0 < (t108.length : Int)
     ·rw [if_pos c12] at H
      have c12b0 : decide (0 < (t108.length : Int)) = true := decide_eq_true c12
      have c12b1 : decide (0 < t108.length) = true := decide_eq_true (by omega)
      clear c12
      by_cases c13 : 0 ≤ a1
      ·rw [if_pos c13] at H
       have c13b0 : decide (0 ≤ a1) = true := decide_eq_true c13
       clear c13
       by_cases c14 : a1 < ((rd_L2 t108 0).length : Int)
       ·rw [if_pos c14] at H
        have c14b0 : decide (a1 < ((rd_L2 t108 0).length : Int)) = true := decide_eq_true c14
        clear c14
        replace H := Option.bind_eq_some_iff.mp H
        obtain ⟨t113, A150, H⟩ := H
        replace H : (if t113 > 1000000000000 then (some (0, false)) else (some (t113, true))) = some (r1, r2) := H
        have A15 := Aside0.mk A150
        clear A150
        by_cases c16 : t113 > 1000000000000
        ·rw [if_pos c16] at H
         have c16b0 : decide (1000000000000 < t113) = true := decide_eq_true c16
         clear c16
         simp only [Option.some.injEq, Prod.mk.injEq] at H
         obtain ⟨rfl, rfl⟩ := H
         go_wp2_with (first | ((with_reducible refine gate_callee (f := 21) rfl ?_); refine goesL_ (some 16) rfl rfl Try.func21 (by kernel_rfl) rfl #[.slice A0 l0.length c0] rfl (by (try simp only [List.map_toArray, List.map_cons, List.map_nil]); first | done | rfl | (simp only [List.length_drop, List.length_take]; rfl)) ?_; (with_reducible refine (impl_total.calls kj2 _ _ l0 t107 _ ?side1 ?side2 A9.1).mono ?_); (case side1 => repeat (first | exact (Kd.C_below HR0.1 HB.1) | (with_reducible refine Kd.C_alloc ?_ _) | (with_reducible refine Kd.C_drewN ?_ _) | (with_reducible refine Kd.C_drew ?_))); (case side2 => exact HC0.1); rintro e w' ⟨rfl, ⟨nd, rfl⟩⟩; refine ⟨_, rfl, ?_⟩) | ((with_reducible refine gate_callee (f := 22) rfl ?_); refine goesL_ (some 19) rfl rfl Try.func22 (by kernel_rfl) rfl #[.slice A0 l0.length c0] rfl (by (try simp only [List.map_toArray, List.map_cons, List.map_nil]); first | done | rfl | (simp only [List.length_drop, List.length_take]; rfl)) ?_; (with_reducible refine (impl_draws.calls kj2 _ _ l0 t108 _ ?side1 ?side2 A11.1).mono ?_); (case side1 => repeat (first | exact (Kd.C_below HR0.1 (by repeat (first | (with_reducible first | exact HB.1 | apply below_alloc | apply pw_below_drewN | apply below_drew1) | exact HB.1))) | (with_reducible refine Kd.C_alloc ?_ _) | (with_reducible refine Kd.C_drewN ?_ _) | (with_reducible refine Kd.C_drew ?_))); (case side2 => exact HC0.1); rintro e w17 ⟨v109, rfl, ho0, hb⟩; refine ⟨_, rfl, ?_⟩; have n0_ := Aside0.mk (Kd.R_lower ho0 (below_size (by repeat (first | (with_reducible first | exact HB.1 | apply below_alloc | apply pw_below_drewN | apply below_drew1) | exact HB.1)))); have n1_ := Aside0.mk (below_step (by repeat (first | (with_reducible first | exact HB.1 | apply below_alloc | apply pw_below_drewN | apply below_drew1) | exact HB.1)) hb); clear HB; have HO110 := n0_; have HB := n1_; clear n0_ n1_; (try clear hb); (try clear hb2); (try clear hk); (try clear hi); (try clear ho0); obtain ⟨Ao18, co18, eo18⟩ := Kd.R_slice HO110.1; subst eo18; have p111 : 0 ≤ (0 : Int) := (by omega); have q111 : 0 < (t108.length : Int) := of_decide_eq_true (by first | (with_reducible assumption) | assumption); obtain ⟨ad111, A111_0, c111_0, e111, hx111_0, hl111_0, hi111_0⟩ := at_L2 (Kd.R_reads' HO110.1).2.2 0 p111 q111; cases e111; obtain ⟨ce111, hce111, hMe111, hcc111⟩ := Kd.R_get HO110.1 [] 0 p111 (by first | exact q111 | exact of_decide_eq_true (by first | (with_reducible assumption) | assumption) | (have e_ := (Kd.R_reads' HO110.1).1; omega)); obtain ⟨ve111_0, rfl, ge111_0⟩ := hMe111; have hv111_0 := hcc111 0 _ rfl; rw [Nat.add_zero, show ((Kd.slice 22 (Kd.slice 3 (Kd.int .i64)))).sz = 1 from rfl, Nat.mul_one] at hv111_0; replace hv111_0 := Option.some.inj (hv111_0.symm.trans hx111_0); rw [hv111_0] at ge111_0; have HL111_0 := Aside0.mk (show Kd.R (Kd.slice 3 (Kd.int .i64)) 22 _ _ _ _ (rd_L2 t108 0) from ge111_0); clear hv111_0 ge111_0; clear hcc111 hce111; have qi111 : (0 < t108.length) = True := eq_true (by omega); (try rw [show ((0 : Int)).toNat = 0 from rfl] at hx111_0); (try rw [Addr.add_zero'] at hx111_0); have HR111_0 := Aside0.mk hi111_0; have HC111_0 := Aside0.mk hl111_0; clear hi111_0 hl111_0; replace p111 := eq_true p111; replace q111 := eq_true q111; have p112 : 0 ≤ (a1 : Int) := of_decide_eq_true (by first | (with_reducible assumption) | assumption); have q112 : a1 < ((rd_L2 t108 0).length : Int) := of_decide_eq_true (by first | (with_reducible assumption) | assumption); obtain ⟨ad112, A112_0, c112_0, e112, hx112_0, hl112_0, hi112_0⟩ := at_L1 (by repeat (first | (with_reducible exact HR111_0.1) | (with_reducible refine Kd.C_alloc ?_ _) | (with_reducible refine Kd.C_drewN ?_ _) | (with_reducible refine Kd.C_drew ?_) | exact HR111_0.1)) a1 p112 q112; cases e112; obtain ⟨ce112, hce112, hMe112, hcc112⟩ := Kd.R_get HL111_0.1 [] a1 p112 (by first | exact q112 | exact of_decide_eq_true (by first | (with_reducible assumption) | assumption) | (have e_ := (Kd.R_reads' HL111_0.1).1; omega)); obtain ⟨ve112_0, rfl, ge112_0⟩ := hMe112; have hv112_0 := hcc112 0 _ rfl; rw [Nat.add_zero, show ((Kd.slice 3 (Kd.int .i64))).sz = 1 from rfl, Nat.mul_one] at hv112_0; replace hv112_0 := Option.some.inj (hv112_0.symm.trans hx112_0); rw [hv112_0] at ge112_0; have HL112_0 := Aside0.mk (show Kd.R (Kd.int .i64) 3 _ _ _ _ (rd_L1 (rd_L2 t108 0) a1) from ge112_0); clear hv112_0 ge112_0; clear hcc112 hce112; have HR112_0 := Aside0.mk hi112_0; have HC112_0 := Aside0.mk hl112_0; clear hi112_0 hl112_0; replace p112 := eq_true p112; replace q112 := eq_true q112) | ((with_reducible refine gate_callee (f := 21) rfl ?_); refine goesL_ (some 25) rfl rfl Try.func21 (by kernel_rfl) rfl #[.slice A112_0 (rd_L1 (rd_L2 t108 0) a1).length c112_0] rfl (by (try simp only [List.map_toArray, List.map_cons, List.map_nil]); first | done | rfl | (simp only [List.length_drop, List.length_take]; rfl)) ?_; (with_reducible refine (impl_total.calls kj2 _ _ (rd_L1 (rd_L2 t108 0) a1) t113 _ ?side1 ?side2 A15.1).mono ?_); (case side1 => repeat (first | exact (by repeat (first | (with_reducible exact HR112_0.1) | (with_reducible refine Kd.C_alloc ?_ _) | (with_reducible refine Kd.C_drewN ?_ _) | (with_reducible refine Kd.C_drew ?_) | exact HR112_0.1)) | (with_reducible refine Kd.C_alloc ?_ _) | (with_reducible refine Kd.C_drewN ?_ _) | (with_reducible refine Kd.C_drew ?_))); (case side2 => exact HC112_0.1); rintro e w' ⟨rfl, ⟨nd, rfl⟩⟩; refine ⟨_, rfl, ?_⟩))
         go_ret2
         exact ⟨by first | rfl | (simp [errW_none, errW_some] <;> rfl) | (simp [Go.IntWalk.i64_left]; done) | (simp [*, errW_none, errW_some] <;> rfl), by repeat (first | (with_reducible first | exact HB.1 | apply below_alloc | apply pw_below_drewN | apply below_drew1) | exact HB.1)⟩
        ·rw [if_neg c16] at H
         have c16b0 : decide (1000000000000 < t113) = false := decide_eq_false c16
         clear c16
         simp only [Option.some.injEq, Prod.mk.injEq] at H
         obtain ⟨rfl, rfl⟩ := H
         go_wp2_with (first | ((with_reducible refine gate_callee (f := 21) rfl ?_); refine goesL_ (some 16) rfl rfl Try.func21 (by kernel_rfl) rfl #[.slice A0 l0.length c0] rfl (by (try simp only [List.map_toArray, List.map_cons, List.map_nil]); first | done | rfl | (simp only [List.length_drop, List.length_take]; rfl)) ?_; (with_reducible refine (impl_total.calls kj2 _ _ l0 t107 _ ?side1 ?side2 A9.1).mono ?_); (case side1 => repeat (first | exact (Kd.C_below HR0.1 HB.1) | (with_reducible refine Kd.C_alloc ?_ _) | (with_reducible refine Kd.C_drewN ?_ _) | (with_reducible refine Kd.C_drew ?_))); (case side2 => exact HC0.1); rintro e w' ⟨rfl, ⟨nd, rfl⟩⟩; refine ⟨_, rfl, ?_⟩) | ((with_reducible refine gate_callee (f := 22) rfl ?_); refine goesL_ (some 19) rfl rfl Try.func22 (by kernel_rfl) rfl #[.slice A0 l0.length c0] rfl (by (try simp only [List.map_toArray, List.map_cons, List.map_nil]); first | done | rfl | (simp only [List.length_drop, List.length_take]; rfl)) ?_; (with_reducible refine (impl_draws.calls kj2 _ _ l0 t108 _ ?side1 ?side2 A11.1).mono ?_); (case side1 => repeat (first | exact (Kd.C_below HR0.1 (by repeat (first | (with_reducible first | exact HB.1 | apply below_alloc | apply pw_below_drewN | apply below_drew1) | exact HB.1))) | (with_reducible refine Kd.C_alloc ?_ _) | (with_reducible refine Kd.C_drewN ?_ _) | (with_reducible refine Kd.C_drew ?_))); (case side2 => exact HC0.1); rintro e w19 ⟨v109, rfl, ho0, hb⟩; refine ⟨_, rfl, ?_⟩; have n0_ := Aside0.mk (Kd.R_lower ho0 (below_size (by repeat (first | (with_reducible first | exact HB.1 | apply below_alloc | apply pw_below_drewN | apply below_drew1) | exact HB.1)))); have n1_ := Aside0.mk (below_step (by repeat (first | (with_reducible first | exact HB.1 | apply below_alloc | apply pw_below_drewN | apply below_drew1) | exact HB.1)) hb); clear HB; have HO110 := n0_; have HB := n1_; clear n0_ n1_; (try clear hb); (try clear hb2); (try clear hk); (try clear hi); (try clear ho0); obtain ⟨Ao20, co20, eo20⟩ := Kd.R_slice HO110.1; subst eo20; have p111 : 0 ≤ (0 : Int) := (by omega); have q111 : 0 < (t108.length : Int) := of_decide_eq_true (by first | (with_reducible assumption) | assumption); obtain ⟨ad111, A111_0, c111_0, e111, hx111_0, hl111_0, hi111_0⟩ := at_L2 (Kd.R_reads' HO110.1).2.2 0 p111 q111; cases e111; obtain ⟨ce111, hce111, hMe111, hcc111⟩ := Kd.R_get HO110.1 [] 0 p111 (by first | exact q111 | exact of_decide_eq_true (by first | (with_reducible assumption) | assumption) | (have e_ := (Kd.R_reads' HO110.1).1; omega)); obtain ⟨ve111_0, rfl, ge111_0⟩ := hMe111; have hv111_0 := hcc111 0 _ rfl; rw [Nat.add_zero, show ((Kd.slice 22 (Kd.slice 3 (Kd.int .i64)))).sz = 1 from rfl, Nat.mul_one] at hv111_0; replace hv111_0 := Option.some.inj (hv111_0.symm.trans hx111_0); rw [hv111_0] at ge111_0; have HL111_0 := Aside0.mk (show Kd.R (Kd.slice 3 (Kd.int .i64)) 22 _ _ _ _ (rd_L2 t108 0) from ge111_0); clear hv111_0 ge111_0; clear hcc111 hce111; have qi111 : (0 < t108.length) = True := eq_true (by omega); (try rw [show ((0 : Int)).toNat = 0 from rfl] at hx111_0); (try rw [Addr.add_zero'] at hx111_0); have HR111_0 := Aside0.mk hi111_0; have HC111_0 := Aside0.mk hl111_0; clear hi111_0 hl111_0; replace p111 := eq_true p111; replace q111 := eq_true q111; have p112 : 0 ≤ (a1 : Int) := of_decide_eq_true (by first | (with_reducible assumption) | assumption); have q112 : a1 < ((rd_L2 t108 0).length : Int) := of_decide_eq_true (by first | (with_reducible assumption) | assumption); obtain ⟨ad112, A112_0, c112_0, e112, hx112_0, hl112_0, hi112_0⟩ := at_L1 (by repeat (first | (with_reducible exact HR111_0.1) | (with_reducible refine Kd.C_alloc ?_ _) | (with_reducible refine Kd.C_drewN ?_ _) | (with_reducible refine Kd.C_drew ?_) | exact HR111_0.1)) a1 p112 q112; cases e112; obtain ⟨ce112, hce112, hMe112, hcc112⟩ := Kd.R_get HL111_0.1 [] a1 p112 (by first | exact q112 | exact of_decide_eq_true (by first | (with_reducible assumption) | assumption) | (have e_ := (Kd.R_reads' HL111_0.1).1; omega)); obtain ⟨ve112_0, rfl, ge112_0⟩ := hMe112; have hv112_0 := hcc112 0 _ rfl; rw [Nat.add_zero, show ((Kd.slice 3 (Kd.int .i64))).sz = 1 from rfl, Nat.mul_one] at hv112_0; replace hv112_0 := Option.some.inj (hv112_0.symm.trans hx112_0); rw [hv112_0] at ge112_0; have HL112_0 := Aside0.mk (show Kd.R (Kd.int .i64) 3 _ _ _ _ (rd_L1 (rd_L2 t108 0) a1) from ge112_0); clear hv112_0 ge112_0; clear hcc112 hce112; have HR112_0 := Aside0.mk hi112_0; have HC112_0 := Aside0.mk hl112_0; clear hi112_0 hl112_0; replace p112 := eq_true p112; replace q112 := eq_true q112) | ((with_reducible refine gate_callee (f := 21) rfl ?_); refine goesL_ (some 25) rfl rfl Try.func21 (by kernel_rfl) rfl #[.slice A112_0 (rd_L1 (rd_L2 t108 0) a1).length c112_0] rfl (by (try simp only [List.map_toArray, List.map_cons, List.map_nil]); first | done | rfl | (simp only [List.length_drop, List.length_take]; rfl)) ?_; (with_reducible refine (impl_total.calls kj2 _ _ (rd_L1 (rd_L2 t108 0) a1) t113 _ ?side1 ?side2 A15.1).mono ?_); (case side1 => repeat (first | exact (by repeat (first | (with_reducible exact HR112_0.1) | (with_reducible refine Kd.C_alloc ?_ _) | (with_reducible refine Kd.C_drewN ?_ _) | (with_reducible refine Kd.C_drew ?_) | exact HR112_0.1)) | (with_reducible refine Kd.C_alloc ?_ _) | (with_reducible refine Kd.C_drewN ?_ _) | (with_reducible refine Kd.C_drew ?_))); (case side2 => exact HC112_0.1); rintro e w' ⟨rfl, ⟨nd, rfl⟩⟩; refine ⟨_, rfl, ?_⟩))
         go_ret2
         exact ⟨by first | rfl | (simp [errW_none, errW_some] <;> rfl) | (simp [Go.IntWalk.i64_left]; done) | (simp [*, errW_none, errW_some] <;> rfl), by repeat (first | (with_reducible first | exact HB.1 | apply below_alloc | apply pw_below_drewN | apply below_drew1) | exact HB.1)⟩
       ·rw [if_neg c14] at H
        exact absurd H (by simp)
      ·rw [if_neg c13] at H
       exact absurd H (by simp)
     ·rw [if_neg c12] at H
      exact absurd H (by simp)

/-! ### spec_soSum: function 26 -/
def spec_soSum.l0 : Nat → Int → List Int → Int → Int → Option (Int)
 | 0, _, _, _, _ => none
 | k + 1, x3, x6, x7, x8 => if x8 < x7 then (if 0 ≤ x8 then (if x8 < (x6.length : Int) then (spec_soSum.l0 k (wrap64 (x3 + (rd x6 x8))) x6 x7 (wrap64 (x8 + 1))) else (none)) else (none)) else (some x3)
def spec_soSum.f (k : Nat) (l0 : List Int) : Option (Int) := spec_soSum.l0 k 0 l0 (l0.length : Int) 0
theorem spec_soSum.mono_l : ∀ k, (∀ y0 y1 y2 y3, LeO (spec_soSum.l0 k y0 y1 y2 y3) (spec_soSum.l0 (k + 1) y0 y1 y2 y3))
 | 0 => fun _ _ _ _ r h => by simp [spec_soSum.l0] at h
 | k + 1 => by
  have ih0 := spec_soSum.mono_l k
  ·intro y0 y1 y2 y3
   unfold spec_soSum.l0
   repeat' first
   | (with_reducible exact ih0 _ _ _ _)
   | (with_reducible exact LeO.refl _)
   | (with_reducible exact LeO.none _)
   | (with_reducible refine LeO.ite ?_ ?_)
   | (with_reducible refine LeO.bind ?_ (fun _ => ?_))
   | exact ih0 _ _ _ _
   | exact LeO.none _
   | refine LeO.ite ?_ ?_
   | refine LeO.bind ?_ (fun _ => ?_)
theorem spec_soSum.mono : ∀ a0 k, LeO (spec_soSum.f k a0) (spec_soSum.f (k + 1) a0) := by
 intro a0 k
 have ih0 := spec_soSum.mono_l k
 unfold spec_soSum.f
 repeat' first
   | (with_reducible exact ih0 _ _ _ _)
   | (with_reducible exact LeO.refl _)
   | (with_reducible exact LeO.none _)
   | (with_reducible refine LeO.ite ?_ ?_)
   | (with_reducible refine LeO.bind ?_ (fun _ => ?_))
   | exact ih0 _ _ _ _
   | exact LeO.none _
   | refine LeO.ite ?_ ?_
   | refine LeO.bind ?_ (fun _ => ?_)
set_option maxHeartbeats 8000000 in
set_option maxRecDepth 100000 in
theorem spec_soSum.calls (k : Nat) (A0 : Option Addr) (c0 : Nat) (l0 : List Int) (r : Int) (w : World) (hr0 : Kd.C (Kd.int .i64) w A0 l0.length l0) (hc0 : l0.length ≤ c0) (h : spec_soSum.f k l0 = some r) :
  Calls Try.prog 26 #[.slice A0 l0.length c0] w fun e w' => e = .returned (.int .i64 r) ∧ Drawn0 w w' := by
 have HR0 := Aside0.mk hr0
 have HC0 := Aside0.mk hc0
 clear hr0 hc0
 have H : (spec_soSum.l0 k 0 l0 (l0.length : Int) 0) = some r := h
 clear h
 have H' := Aside0.mk H
 clear H
 go_enter Try.func26, Try.ntmps26
 go_wp2
 go_loopg [3, 8] k (fun kq v3 v8 w' => ∃ (x3_1 : Int) (x8_1 : Int), v3 = .int .i64 x3_1 ∧ v8 = .int .i64 x8_1 ∧ Aside0 (spec_soSum.l0 kq x3_1 l0 (l0.length : Int) x8_1 = some r) ∧ Aside0 (kq ≤ k) ∧ Drawn0 w w')
 case atStart => exact ⟨(0), (0), (by first | rfl | (simp; done) | (simp [*]; done) | (simp [Go.IntWalk.i64_left]; done)), (by first | rfl | (simp; done) | (simp [*]; done) | (simp [Go.IntWalk.i64_left]; done)), H', ⟨Nat.le_refl _⟩, by repeat (first | exact Drawn0.refl _ | apply Drawn0.step)⟩
 case round =>
  clear H'
  obtain ⟨x3_1, x8_1, rfl, rfl, HA, HK1, ⟨m1, rfl⟩⟩ := hrel
  cases gk with
  | zero => exact absurd HA.1 (by simp [spec_soSum.l0])
  | succ k1 =>
   have H := HA.1
   clear HA
   simp only [spec_soSum.l0] at H
   by_cases c2 : x8_1 < (l0.length : Int)
   ·rw [if_pos c2] at H
    have c2b0 : decide (x8_1 < (l0.length : Int)) = true := decide_eq_true c2
    clear c2
    by_cases c3 : 0 ≤ x8_1
    ·rw [if_pos c3] at H
     have c3b0 : decide (0 ≤ x8_1) = true := decide_eq_true c3
     clear c3
     by_cases c4 : x8_1 < (l0.length : Int)
     ·rw [if_pos c4] at H
      have c4b0 : decide (x8_1 < (l0.length : Int)) = true := decide_eq_true c4
      clear c4
      have H' := Aside0.mk H
      clear H
      have p114 : 0 ≤ (x8_1 : Int) := of_decide_eq_true (by first | (with_reducible assumption) | assumption)
      have q114 : x8_1 < (l0.length : Int) := of_decide_eq_true (by first | (with_reducible assumption) | assumption)
      obtain ⟨ad114, e114, hx114_0⟩ := Kd.at_int HR0.1 x8_1 p114 q114
      cases e114
      replace p114 := eq_true p114
      replace q114 := eq_true q114
      go_wp2
      go_roundg k1
      case measure => have := HK1.1; omega
      case rel => exact ⟨(wrap64 (x3_1 + (rd l0 x8_1))), (wrap64 (x8_1 + 1)), (by first | rfl | (simp; done) | (simp [*]; done) | (simp [Go.IntWalk.i64_left]; done)), (by first | rfl | (simp; done) | (simp [*]; done) | (simp [Go.IntWalk.i64_left]; done)), H', ⟨by have := HK1.1; omega⟩, by repeat (first | exact Drawn0.refl _ | apply Drawn0.step)⟩
     ·rw [if_neg c4] at H
      exact absurd H (by simp)
    ·rw [if_neg c3] at H
     exact absurd H (by simp)
   ·rw [if_neg c2] at H
    have c2b0 : decide (x8_1 < (l0.length : Int)) = false := decide_eq_false c2
    clear c2
    obtain rfl := Option.some.inj H
    go_wp2
    go_ret
    exact ⟨by first | rfl | (simp; done) | (simp [*]; done) | (simp [Go.IntWalk.i64_left]; done), by repeat (first | exact Drawn0.refl _ | apply Drawn0.step)⟩

/-! ### spec_l1In: function 35 -/
def spec_l1In.f (a0 : Int) (a1 : Int) (a2 : Int) : Option (Bool) := if a0 ≥ a1 then (some (decide (a0 ≤ a2))) else (some false)
set_option maxHeartbeats 8000000 in
set_option maxRecDepth 100000 in
theorem spec_l1In.calls (a0 : Int) (a1 : Int) (a2 : Int) (r : Bool) (w : World) (h : spec_l1In.f a0 a1 a2 = some r) :
  Calls Try.prog 35 #[.int .i64 a0, .int .i64 a1, .int .i64 a2] w fun e w' => e = .returned (.bool r) ∧ Drawn0 w w' := by
 have H : (if a0 ≥ a1 then (some (decide (a0 ≤ a2))) else (some false)) = some r := h
 clear h
 by_cases c4 : a0 ≥ a1
 ·rw [if_pos c4] at H
  have c4b0 : decide (a1 ≤ a0) = true := decide_eq_true c4
  clear c4
  obtain rfl := Option.some.inj H
  go_enter Try.func35, Try.ntmps35
  go_wp2
  go_ret
  exact ⟨by first | rfl | (simp; done) | (simp [*]; done) | (simp [Go.IntWalk.i64_left]; done), by repeat (first | exact Drawn0.refl _ | apply Drawn0.step)⟩
 ·rw [if_neg c4] at H
  have c4b0 : decide (a1 ≤ a0) = false := decide_eq_false c4
  clear c4
  obtain rfl := Option.some.inj H
  go_enter Try.func35, Try.ntmps35
  go_wp2
  go_ret
  exact ⟨by first | rfl | (simp; done) | (simp [*]; done) | (simp [Go.IntWalk.i64_left]; done), by repeat (first | exact Drawn0.refl _ | apply Drawn0.step)⟩

/-! ### spec_l1All: function 36 -/
def spec_l1All.l0 : Nat → Int → Int → List Int → Int → Int → Option (Bool)
 | 0, _, _, _, _, _ => none
 | k + 1, x1, x2, x9, x10, x11 => if x11 < x10 then (if 0 ≤ x11 then (if x11 < (x9.length : Int) then ((spec_l1In.f (rd x9 x11) x1 x2).bind fun t116 => (if t116 = true then (spec_l1All.l0 k x1 x2 x9 x10 (wrap64 (x11 + 1))) else (some false))) else (none)) else (none)) else (some true)
def spec_l1All.f (k : Nat) (l0 : List Int) (a1 : Int) (a2 : Int) : Option (Bool) := spec_l1All.l0 k a1 a2 l0 (l0.length : Int) 0
theorem spec_l1All.mono_l : ∀ k, (∀ y0 y1 y2 y3 y4, LeO (spec_l1All.l0 k y0 y1 y2 y3 y4) (spec_l1All.l0 (k + 1) y0 y1 y2 y3 y4))
 | 0 => fun _ _ _ _ _ r h => by simp [spec_l1All.l0] at h
 | k + 1 => by
  have ih0 := spec_l1All.mono_l k
  ·intro y0 y1 y2 y3 y4
   unfold spec_l1All.l0
   repeat' first
   | (with_reducible exact ih0 _ _ _ _ _)
   | (with_reducible exact LeO.refl _)
   | (with_reducible exact LeO.none _)
   | (with_reducible refine LeO.ite ?_ ?_)
   | (with_reducible refine LeO.bind ?_ (fun _ => ?_))
   | exact ih0 _ _ _ _ _
   | exact LeO.none _
   | refine LeO.ite ?_ ?_
   | refine LeO.bind ?_ (fun _ => ?_)
theorem spec_l1All.mono : ∀ a0 a1 a2 k, LeO (spec_l1All.f k a0 a1 a2) (spec_l1All.f (k + 1) a0 a1 a2) := by
 intro a0 a1 a2 k
 have ih0 := spec_l1All.mono_l k
 unfold spec_l1All.f
 repeat' first
   | (with_reducible exact ih0 _ _ _ _ _)
   | (with_reducible exact LeO.refl _)
   | (with_reducible exact LeO.none _)
   | (with_reducible refine LeO.ite ?_ ?_)
   | (with_reducible refine LeO.bind ?_ (fun _ => ?_))
   | exact ih0 _ _ _ _ _
   | exact LeO.none _
   | refine LeO.ite ?_ ?_
   | refine LeO.bind ?_ (fun _ => ?_)
set_option maxHeartbeats 8000000 in
set_option maxRecDepth 100000 in
theorem spec_l1All.calls (k : Nat) (A0 : Option Addr) (c0 : Nat) (l0 : List Int) (a1 : Int) (a2 : Int) (r : Bool) (w : World) (hr0 : Kd.C (Kd.int .i64) w A0 l0.length l0) (hc0 : l0.length ≤ c0) (h : spec_l1All.f k l0 a1 a2 = some r) :
  Calls Try.prog 36 #[.slice A0 l0.length c0, .int .i64 a1, .int .i64 a2] w fun e w' => e = .returned (.bool r) ∧ Drawn0 w w' := by
 have HR0 := Aside0.mk hr0
 have HC0 := Aside0.mk hc0
 clear hr0 hc0
 have H : (spec_l1All.l0 k a1 a2 l0 (l0.length : Int) 0) = some r := h
 clear h
 have H' := Aside0.mk H
 clear H
 go_enter Try.func36, Try.ntmps36
 go_wp2
 go_loopg [11] k (fun kq v11 w' => ∃ (x11_1 : Int), v11 = .int .i64 x11_1 ∧ Aside0 (spec_l1All.l0 kq a1 a2 l0 (l0.length : Int) x11_1 = some r) ∧ Aside0 (kq ≤ k) ∧ Drawn0 w w')
 case atStart => exact ⟨(0), (by first | rfl | (simp; done) | (simp [*]; done) | (simp [Go.IntWalk.i64_left]; done)), H', ⟨Nat.le_refl _⟩, by repeat (first | exact Drawn0.refl _ | apply Drawn0.step)⟩
 case round =>
  clear H'
  try clear p2
  try clear c3
  obtain ⟨x11_1, rfl, HA, HK1, ⟨m1, rfl⟩⟩ := hrel
  cases gk with
  | zero => exact absurd HA.1 (by simp [spec_l1All.l0])
  | succ k1 =>
   have H := HA.1
   clear HA
   simp only [spec_l1All.l0] at H
   by_cases c4 : x11_1 < (l0.length : Int)
   ·rw [if_pos c4] at H
    have c4b0 : decide (x11_1 < (l0.length : Int)) = true := decide_eq_true c4
    clear c4
    by_cases c5 : 0 ≤ x11_1
    ·rw [if_pos c5] at H
     have c5b0 : decide (0 ≤ x11_1) = true := decide_eq_true c5
     clear c5
     by_cases c6 : x11_1 < (l0.length : Int)
     ·rw [if_pos c6] at H
      have c6b0 : decide (x11_1 < (l0.length : Int)) = true := decide_eq_true c6
      clear c6
      replace H := Option.bind_eq_some_iff.mp H
      obtain ⟨t116, A70, H⟩ := H
      replace H : (if t116 = true then (spec_l1All.l0 k1 a1 a2 l0 (l0.length : Int) (wrap64 (x11_1 + 1))) else (some false)) = some r := H
      have A7 := Aside0.mk A70
      clear A70
      by_cases c8 : t116 = true
      ·subst c8
       have H1 : (spec_l1All.l0 k1 a1 a2 l0 (l0.length : Int) (wrap64 (x11_1 + 1))) = some r := by rw [if_pos rfl] at H; exact H
       clear H
       have H := H1
       clear H1
       have H' := Aside0.mk H
       clear H
       have p115 : 0 ≤ (x11_1 : Int) := of_decide_eq_true (by first | (with_reducible assumption) | assumption)
       have q115 : x11_1 < (l0.length : Int) := of_decide_eq_true (by first | (with_reducible assumption) | assumption)
       obtain ⟨ad115, e115, hx115_0⟩ := Kd.at_int HR0.1 x11_1 p115 q115
       cases e115
       replace p115 := eq_true p115
       replace q115 := eq_true q115
       go_wp2_with (first | ((with_reducible refine gate_callee (f := 35) rfl ?_); refine goesL_ (some 18) rfl rfl Try.func35 (by kernel_rfl) rfl #[.int .i64 (rd l0 x11_1), .int .i64 a1, .int .i64 a2] rfl (by (try simp only [List.map_toArray, List.map_cons, List.map_nil]); first | done | rfl | (simp only [List.length_drop, List.length_take]; rfl)) ?_; (with_reducible refine (spec_l1In.calls (rd l0 x11_1) a1 a2 true _ A7.1).mono ?_); rintro e w' ⟨rfl, ⟨nd, rfl⟩⟩; refine ⟨_, rfl, ?_⟩))
       go_roundg k1
       case measure => have := HK1.1; omega
       case rel => exact ⟨(wrap64 (x11_1 + 1)), (by first | rfl | (simp; done) | (simp [*]; done) | (simp [Go.IntWalk.i64_left]; done)), H', ⟨by have := HK1.1; omega⟩, by repeat (first | exact Drawn0.refl _ | apply Drawn0.step)⟩
      ·replace c8 := Bool.eq_false_iff.mpr c8
       subst c8
       have H1 : (some false) = some r := by rw [if_neg (show ¬ (false = true) by decide)] at H; exact H
       clear H
       have H := H1
       clear H1
       obtain rfl := Option.some.inj H
       have p115 : 0 ≤ (x11_1 : Int) := of_decide_eq_true (by first | (with_reducible assumption) | assumption)
       have q115 : x11_1 < (l0.length : Int) := of_decide_eq_true (by first | (with_reducible assumption) | assumption)
       obtain ⟨ad115, e115, hx115_0⟩ := Kd.at_int HR0.1 x11_1 p115 q115
       cases e115
       replace p115 := eq_true p115
       replace q115 := eq_true q115
       go_wp2_with (first | ((with_reducible refine gate_callee (f := 35) rfl ?_); refine goesL_ (some 18) rfl rfl Try.func35 (by kernel_rfl) rfl #[.int .i64 (rd l0 x11_1), .int .i64 a1, .int .i64 a2] rfl (by (try simp only [List.map_toArray, List.map_cons, List.map_nil]); first | done | rfl | (simp only [List.length_drop, List.length_take]; rfl)) ?_; (with_reducible refine (spec_l1In.calls (rd l0 x11_1) a1 a2 false _ A7.1).mono ?_); rintro e w' ⟨rfl, ⟨nd, rfl⟩⟩; refine ⟨_, rfl, ?_⟩))
       go_ret
       exact ⟨by first | rfl | (simp; done) | (simp [*]; done) | (simp [Go.IntWalk.i64_left]; done), by repeat (first | exact Drawn0.refl _ | apply Drawn0.step)⟩
     ·rw [if_neg c6] at H
      exact absurd H (by simp)
    ·rw [if_neg c5] at H
     exact absurd H (by simp)
   ·rw [if_neg c4] at H
    have c4b0 : decide (x11_1 < (l0.length : Int)) = false := decide_eq_false c4
    clear c4
    obtain rfl := Option.some.inj H
    go_wp2
    go_ret
    exact ⟨by first | rfl | (simp; done) | (simp [*]; done) | (simp [Go.IntWalk.i64_left]; done), by repeat (first | exact Drawn0.refl _ | apply Drawn0.step)⟩

/-! ### spec_soGood: function 23 -/
def spec_soGood.f (k : Nat) (l0 : List Int) : Option (Bool) := (spec_l1In.f (l0.length : Int) 1 8).bind fun t117 => (if t117 = true then ((spec_l1All.f k l0 0 20).bind fun t118 => (if t118 = true then ((spec_soSum.f k l0).bind fun t119 => (some (decide (t119 > 0)))) else (some false))) else (some false))
theorem spec_soGood.mono : ∀ a0 k, LeO (spec_soGood.f k a0) (spec_soGood.f (k + 1) a0) := by
 intro a0 k
 unfold spec_soGood.f
 repeat' first
   | (with_reducible exact spec_l1All.mono _ _ _ _)
   | (with_reducible exact spec_soSum.mono _ _)
   | (with_reducible exact LeO.refl _)
   | (with_reducible exact LeO.none _)
   | (with_reducible refine LeO.ite ?_ ?_)
   | (with_reducible refine LeO.bind ?_ (fun _ => ?_))
   | exact spec_l1All.mono _ _ _ _
   | exact spec_soSum.mono _ _
   | exact LeO.none _
   | refine LeO.ite ?_ ?_
   | refine LeO.bind ?_ (fun _ => ?_)
set_option maxHeartbeats 8000000 in
set_option maxRecDepth 100000 in
theorem spec_soGood.calls (k : Nat) (A0 : Option Addr) (c0 : Nat) (l0 : List Int) (r : Bool) (w : World) (hr0 : Kd.C (Kd.int .i64) w A0 l0.length l0) (hc0 : l0.length ≤ c0) (h : spec_soGood.f k l0 = some r) :
  Calls Try.prog 23 #[.slice A0 l0.length c0] w fun e w' => e = .returned (.bool r) ∧ Drawn0 w w' := by
 have HR0 := Aside0.mk hr0
 have HC0 := Aside0.mk hc0
 clear hr0 hc0
 have H : ((spec_l1In.f (l0.length : Int) 1 8).bind fun t117 => (if t117 = true then ((spec_l1All.f k l0 0 20).bind fun t118 => (if t118 = true then ((spec_soSum.f k l0).bind fun t119 => (some (decide (t119 > 0)))) else (some false))) else (some false))) = some r := h
 clear h
 replace H := Option.bind_eq_some_iff.mp H
 obtain ⟨t117, A20, H⟩ := H
 replace H : (if t117 = true then ((spec_l1All.f k l0 0 20).bind fun t118 => (if t118 = true then ((spec_soSum.f k l0).bind fun t119 => (some (decide (t119 > 0)))) else (some false))) else (some false)) = some r := H
 have A2 := Aside0.mk A20
 clear A20
 by_cases c3 : t117 = true
 ·subst c3
  have H1 : ((spec_l1All.f k l0 0 20).bind fun t118 => (if t118 = true then ((spec_soSum.f k l0).bind fun t119 => (some (decide (t119 > 0)))) else (some false))) = some r := by rw [if_pos rfl] at H; exact H
  clear H
  have H := H1
  clear H1
  replace H := Option.bind_eq_some_iff.mp H
  obtain ⟨t118, A40, H⟩ := H
  replace H : (if t118 = true then ((spec_soSum.f k l0).bind fun t119 => (some (decide (t119 > 0)))) else (some false)) = some r := H
  have A4 := Aside0.mk A40
  clear A40
  by_cases c5 : t118 = true
  ·subst c5
   have H1 : ((spec_soSum.f k l0).bind fun t119 => (some (decide (t119 > 0)))) = some r := by rw [if_pos rfl] at H; exact H
   clear H
   have H := H1
   clear H1
   replace H := Option.bind_eq_some_iff.mp H
   obtain ⟨t119, A60, H⟩ := H
   replace H : (some (decide (t119 > 0))) = some r := H
   have A6 := Aside0.mk A60
   clear A60
   obtain rfl := Option.some.inj H
   go_enter Try.func23, Try.ntmps23
   go_wp2_with (first | ((with_reducible refine gate_callee (f := 35) rfl ?_); refine goesL_ (some 5) rfl rfl Try.func35 (by kernel_rfl) rfl #[.int .i64 (l0.length : Int), .int .i64 1, .int .i64 8] rfl (by (try simp only [List.map_toArray, List.map_cons, List.map_nil]); first | done | rfl | (simp only [List.length_drop, List.length_take]; rfl)) ?_; (with_reducible refine (spec_l1In.calls (l0.length : Int) 1 8 true _ A2.1).mono ?_); rintro e w' ⟨rfl, ⟨nd, rfl⟩⟩; refine ⟨_, rfl, ?_⟩) | (go_at_call 36; (with_reducible refine (spec_l1All.calls k _ _ l0 0 20 true _ ?side1 ?side2 A4.1).mono ?_); (case side1 => repeat (first | exact HR0.1 | (with_reducible refine Kd.C_alloc ?_ _) | (with_reducible refine Kd.C_drewN ?_ _) | (with_reducible refine Kd.C_drew ?_))); (case side2 => exact HC0.1); rintro e w' ⟨rfl, ⟨nd, rfl⟩⟩) | (go_at_call 26; (with_reducible refine (spec_soSum.calls k _ _ l0 t119 _ ?side1 ?side2 A6.1).mono ?_); (case side1 => repeat (first | exact HR0.1 | (with_reducible refine Kd.C_alloc ?_ _) | (with_reducible refine Kd.C_drewN ?_ _) | (with_reducible refine Kd.C_drew ?_))); (case side2 => exact HC0.1); rintro e w' ⟨rfl, ⟨nd, rfl⟩⟩))
   go_ret
   exact ⟨by first | rfl | (simp; done) | (simp [*]; done) | (simp [Go.IntWalk.i64_left]; done), by repeat (first | exact Drawn0.refl _ | apply Drawn0.step)⟩
  ·replace c5 := Bool.eq_false_iff.mpr c5
   subst c5
   have H1 : (some false) = some r := by rw [if_neg (show ¬ (false = true) by decide)] at H; exact H
   clear H
   have H := H1
   clear H1
   obtain rfl := Option.some.inj H
   go_enter Try.func23, Try.ntmps23
   go_wp2_with (first | ((with_reducible refine gate_callee (f := 35) rfl ?_); refine goesL_ (some 5) rfl rfl Try.func35 (by kernel_rfl) rfl #[.int .i64 (l0.length : Int), .int .i64 1, .int .i64 8] rfl (by (try simp only [List.map_toArray, List.map_cons, List.map_nil]); first | done | rfl | (simp only [List.length_drop, List.length_take]; rfl)) ?_; (with_reducible refine (spec_l1In.calls (l0.length : Int) 1 8 true _ A2.1).mono ?_); rintro e w' ⟨rfl, ⟨nd, rfl⟩⟩; refine ⟨_, rfl, ?_⟩) | (go_at_call 36; (with_reducible refine (spec_l1All.calls k _ _ l0 0 20 false _ ?side1 ?side2 A4.1).mono ?_); (case side1 => repeat (first | exact HR0.1 | (with_reducible refine Kd.C_alloc ?_ _) | (with_reducible refine Kd.C_drewN ?_ _) | (with_reducible refine Kd.C_drew ?_))); (case side2 => exact HC0.1); rintro e w' ⟨rfl, ⟨nd, rfl⟩⟩))
   go_ret
   exact ⟨by first | rfl | (simp; done) | (simp [*]; done) | (simp [Go.IntWalk.i64_left]; done), by repeat (first | exact Drawn0.refl _ | apply Drawn0.step)⟩
 ·replace c3 := Bool.eq_false_iff.mpr c3
  subst c3
  have H1 : (some false) = some r := by rw [if_neg (show ¬ (false = true) by decide)] at H; exact H
  clear H
  have H := H1
  clear H1
  obtain rfl := Option.some.inj H
  go_enter Try.func23, Try.ntmps23
  go_wp2_with (first | ((with_reducible refine gate_callee (f := 35) rfl ?_); refine goesL_ (some 5) rfl rfl Try.func35 (by kernel_rfl) rfl #[.int .i64 (l0.length : Int), .int .i64 1, .int .i64 8] rfl (by (try simp only [List.map_toArray, List.map_cons, List.map_nil]); first | done | rfl | (simp only [List.length_drop, List.length_take]; rfl)) ?_; (with_reducible refine (spec_l1In.calls (l0.length : Int) 1 8 false _ A2.1).mono ?_); rintro e w' ⟨rfl, ⟨nd, rfl⟩⟩; refine ⟨_, rfl, ?_⟩))
  go_ret
  exact ⟨by first | rfl | (simp; done) | (simp [*]; done) | (simp [Go.IntWalk.i64_left]; done), by repeat (first | exact Drawn0.refl _ | apply Drawn0.step)⟩

/-! ### spec_l1Most: function 37 -/
def spec_l1Most.f (a0 : Int) (a1 : Int) : Option (Int) := if a0 > a1 then (some a0) else (some a1)
set_option maxHeartbeats 8000000 in
set_option maxRecDepth 100000 in
theorem spec_l1Most.calls (a0 : Int) (a1 : Int) (r : Int) (w : World) (h : spec_l1Most.f a0 a1 = some r) :
  Calls Try.prog 37 #[.int .i64 a0, .int .i64 a1] w fun e w' => e = .returned (.int .i64 r) ∧ Drawn0 w w' := by
 have H : (if a0 > a1 then (some a0) else (some a1)) = some r := h
 clear h
 by_cases c3 : a0 > a1
 ·rw [if_pos c3] at H
  have c3b0 : decide (a1 < a0) = true := decide_eq_true c3
  clear c3
  obtain rfl := Option.some.inj H
  go_enter Try.func37, Try.ntmps37
  go_wp2
  go_ret
  exact ⟨by first | rfl | (simp; done) | (simp [*]; done) | (simp [Go.IntWalk.i64_left]; done), by repeat (first | exact Drawn0.refl _ | apply Drawn0.step)⟩
 ·rw [if_neg c3] at H
  have c3b0 : decide (a1 < a0) = false := decide_eq_false c3
  clear c3
  obtain rfl := Option.some.inj H
  go_enter Try.func37, Try.ntmps37
  go_wp2
  go_ret
  exact ⟨by first | rfl | (simp; done) | (simp [*]; done) | (simp [Go.IntWalk.i64_left]; done), by repeat (first | exact Drawn0.refl _ | apply Drawn0.step)⟩

/-! ### spec_l1Least: function 38 -/
def spec_l1Least.f (a0 : Int) (a1 : Int) : Option (Int) := if a0 < a1 then (some a0) else (some a1)
set_option maxHeartbeats 8000000 in
set_option maxRecDepth 100000 in
theorem spec_l1Least.calls (a0 : Int) (a1 : Int) (r : Int) (w : World) (h : spec_l1Least.f a0 a1 = some r) :
  Calls Try.prog 38 #[.int .i64 a0, .int .i64 a1] w fun e w' => e = .returned (.int .i64 r) ∧ Drawn0 w w' := by
 have H : (if a0 < a1 then (some a0) else (some a1)) = some r := h
 clear h
 by_cases c3 : a0 < a1
 ·rw [if_pos c3] at H
  have c3b0 : decide (a0 < a1) = true := decide_eq_true c3
  clear c3
  obtain rfl := Option.some.inj H
  go_enter Try.func38, Try.ntmps38
  go_wp2
  go_ret
  exact ⟨by first | rfl | (simp; done) | (simp [*]; done) | (simp [Go.IntWalk.i64_left]; done), by repeat (first | exact Drawn0.refl _ | apply Drawn0.step)⟩
 ·rw [if_neg c3] at H
  have c3b0 : decide (a0 < a1) = false := decide_eq_false c3
  clear c3
  obtain rfl := Option.some.inj H
  go_enter Try.func38, Try.ntmps38
  go_wp2
  go_ret
  exact ⟨by first | rfl | (simp; done) | (simp [*]; done) | (simp [Go.IntWalk.i64_left]; done), by repeat (first | exact Drawn0.refl _ | apply Drawn0.step)⟩

/-! ### spec_soCounts: function 28 -/
mutual
def spec_soCounts.l0 : Nat → Int → Int → Int → List Int → List Int → Int → Int → Option (Int)
 | 0, _, _, _, _, _, _, _ => none
 | k + 1, x1, x2, x7, x8, x29, x30, x31 => if x31 < x30 then (if 0 ≤ x31 then (if x31 < (x29.length : Int) then (if 0 ≤ (x8.length : Int) then (if ((x8.length : Int) : Int).toNat ≤ 35184372088832 then (spec_soCounts.l1 k x1 x2 x7 (rd x29 x31) (List.replicate ((x8.length : Int) : Int).toNat 0) x29 x30 x31 x8 (x8.length : Int) 0) else (none)) else (none)) else (none)) else (none)) else ((spec_l1Most.f x2 0).bind fun t125 => (if 0 ≤ (wrap64 ((wrap64 (x1 * x7)) + t125)) then (if (wrap64 ((wrap64 (x1 * x7)) + t125)) < (x8.length : Int) then (some (rd x8 (wrap64 ((wrap64 (x1 * x7)) + t125)))) else (none)) else (none)))
def spec_soCounts.l1 : Nat → Int → Int → Int → Int → List Int → List Int → Int → Int → List Int → Int → Int → Option (Int)
 | 0, _, _, _, _, _, _, _, _, _, _, _ => none
 | k + 1, x1, x2, x7, x10, x11, x29, x30, x31, x38, x39, x40 => if x40 < x39 then (if 0 ≤ x40 then (if x40 < (x38.length : Int) then (if (rd x38 x40) = 0 then (spec_soCounts.l1 k x1 x2 x7 x10 x11 x29 x30 x31 x38 x39 (wrap64 (x40 + 1))) else (if x7 = 0 then (none) else (spec_soCounts.l2 k x1 x2 x7 x10 x11 (rd x38 x40) (wrap64 (Int.tdiv x40 x7)) (Int.tmod x40 x7) 0 x29 x30 x31 x38 x39 x40))) else (none)) else (none)) else (spec_soCounts.l0 k x1 x2 x7 x11 x29 x30 (wrap64 (x31 + 1)))
def spec_soCounts.l2 : Nat → Int → Int → Int → Int → List Int → Int → Int → Int → Int → List Int → Int → Int → List Int → Int → Int → Option (Int)
 | 0, _, _, _, _, _, _, _, _, _, _, _, _, _, _, _ => none
 | k + 1, x1, x2, x7, x10, x11, x13, x14, x15, x16, x29, x30, x31, x38, x39, x40 => if x16 ≤ x10 then (spec_soCounts.j3 k x1 x2 x7 x10 x11 x13 x14 x15 x16 x29 x30 x31 x38 x39 x40 (decide ((wrap64 (x14 + x16)) ≤ x1))) else (spec_soCounts.j3 k x1 x2 x7 x10 x11 x13 x14 x15 x16 x29 x30 x31 x38 x39 x40 false)
def spec_soCounts.j3 : Nat → Int → Int → Int → Int → List Int → Int → Int → Int → Int → List Int → Int → Int → List Int → Int → Int → Bool → Option (Int)
 | 0, _, _, _, _, _, _, _, _, _, _, _, _, _, _, _, _ => none
 | k + 1, x1, x2, x7, x10, x11, x13, x14, x15, x16, x29, x30, x31, x38, x39, x40, x62 => if x62 = true then (if x2 ≥ 0 then (if (wrap64 (x15 + (wrap64 (Int.tdiv x16 2)))) < x7 then (if 0 ≤ (wrap64 ((wrap64 ((wrap64 (x14 + x16)) * x7)) + (wrap64 (x15 + (wrap64 (Int.tdiv x16 2)))))) then (if (wrap64 ((wrap64 ((wrap64 (x14 + x16)) * x7)) + (wrap64 (x15 + (wrap64 (Int.tdiv x16 2)))))) < (x11.length : Int) then ((spec_l1Least.f (wrap64 ((rd x11 (wrap64 ((wrap64 ((wrap64 (x14 + x16)) * x7)) + (wrap64 (x15 + (wrap64 (Int.tdiv x16 2))))))) + x13)) 1000000000001).bind fun t133 => (spec_soCounts.l2 k x1 x2 x7 x10 (x11.set ((wrap64 ((wrap64 ((wrap64 (x14 + x16)) * x7)) + (wrap64 (x15 + (wrap64 (Int.tdiv x16 2)))))) : Int).toNat t133) x13 x14 x15 (wrap64 (x16 + 1)) x29 x30 x31 x38 x39 x40)) else (none)) else (none)) else (spec_soCounts.l2 k x1 x2 x7 x10 x11 x13 x14 x15 (wrap64 (x16 + 1)) x29 x30 x31 x38 x39 x40)) else (if x15 < x7 then (if 0 ≤ (wrap64 ((wrap64 ((wrap64 (x14 + x16)) * x7)) + x15)) then (if (wrap64 ((wrap64 ((wrap64 (x14 + x16)) * x7)) + x15)) < (x11.length : Int) then ((spec_l1Least.f (wrap64 ((rd x11 (wrap64 ((wrap64 ((wrap64 (x14 + x16)) * x7)) + x15))) + x13)) 1000000000001).bind fun t136 => (spec_soCounts.l2 k x1 x2 x7 x10 (x11.set ((wrap64 ((wrap64 ((wrap64 (x14 + x16)) * x7)) + x15)) : Int).toNat t136) x13 x14 x15 (wrap64 (x16 + 1)) x29 x30 x31 x38 x39 x40)) else (none)) else (none)) else (spec_soCounts.l2 k x1 x2 x7 x10 x11 x13 x14 x15 (wrap64 (x16 + 1)) x29 x30 x31 x38 x39 x40))) else (spec_soCounts.l1 k x1 x2 x7 x10 x11 x29 x30 x31 x38 x39 (wrap64 (x40 + 1)))
end
def spec_soCounts.f (k : Nat) (l0 : List Int) (a1 : Int) (a2 : Int) : Option (Int) := (spec_l1Most.f a2 0).bind fun t120 => (if 0 ≤ (wrap64 ((wrap64 (a1 + 1)) * (wrap64 (t120 + 1)))) then (if (wrap64 ((wrap64 (a1 + 1)) * (wrap64 (t120 + 1))) : Int).toNat ≤ 35184372088832 then ((some (List.replicate (wrap64 ((wrap64 (a1 + 1)) * (wrap64 (t120 + 1))) : Int).toNat 0 : List Int)).bind fun y121 => (if 0 < (y121.length : Int) then (spec_soCounts.l0 k a1 a2 (wrap64 (t120 + 1)) (y121.set (0 : Int).toNat 1) l0 (l0.length : Int) 0) else (none))) else (none)) else (none))
theorem spec_soCounts.mono_l : ∀ k, (∀ y0 y1 y2 y3 y4 y5 y6, LeO (spec_soCounts.l0 k y0 y1 y2 y3 y4 y5 y6) (spec_soCounts.l0 (k + 1) y0 y1 y2 y3 y4 y5 y6)) ∧ (∀ y0 y1 y2 y3 y4 y5 y6 y7 y8 y9 y10, LeO (spec_soCounts.l1 k y0 y1 y2 y3 y4 y5 y6 y7 y8 y9 y10) (spec_soCounts.l1 (k + 1) y0 y1 y2 y3 y4 y5 y6 y7 y8 y9 y10)) ∧ (∀ y0 y1 y2 y3 y4 y5 y6 y7 y8 y9 y10 y11 y12 y13 y14, LeO (spec_soCounts.l2 k y0 y1 y2 y3 y4 y5 y6 y7 y8 y9 y10 y11 y12 y13 y14) (spec_soCounts.l2 (k + 1) y0 y1 y2 y3 y4 y5 y6 y7 y8 y9 y10 y11 y12 y13 y14)) ∧ (∀ y0 y1 y2 y3 y4 y5 y6 y7 y8 y9 y10 y11 y12 y13 y14 y15, LeO (spec_soCounts.j3 k y0 y1 y2 y3 y4 y5 y6 y7 y8 y9 y10 y11 y12 y13 y14 y15) (spec_soCounts.j3 (k + 1) y0 y1 y2 y3 y4 y5 y6 y7 y8 y9 y10 y11 y12 y13 y14 y15))
 | 0 => ⟨fun _ _ _ _ _ _ _ r h => by simp [spec_soCounts.l0] at h, fun _ _ _ _ _ _ _ _ _ _ _ r h => by simp [spec_soCounts.l1] at h, fun _ _ _ _ _ _ _ _ _ _ _ _ _ _ _ r h => by simp [spec_soCounts.l2] at h, fun _ _ _ _ _ _ _ _ _ _ _ _ _ _ _ _ r h => by simp [spec_soCounts.j3] at h⟩
 | k + 1 => by
  obtain ⟨ih0, ih1, ih2, ih3⟩ := spec_soCounts.mono_l k
  refine ⟨?_, ?_, ?_, ?_⟩
  ·intro y0 y1 y2 y3 y4 y5 y6
   unfold spec_soCounts.l0
   repeat' first
   | (with_reducible exact ih0 _ _ _ _ _ _ _)
   | (with_reducible exact ih1 _ _ _ _ _ _ _ _ _ _ _)
   | (with_reducible exact ih2 _ _ _ _ _ _ _ _ _ _ _ _ _ _ _)
   | (with_reducible exact ih3 _ _ _ _ _ _ _ _ _ _ _ _ _ _ _ _)
   | (with_reducible exact LeO.refl _)
   | (with_reducible exact LeO.none _)
   | (with_reducible refine LeO.ite ?_ ?_)
   | (with_reducible refine LeO.bind ?_ (fun _ => ?_))
   | exact ih0 _ _ _ _ _ _ _
   | exact ih1 _ _ _ _ _ _ _ _ _ _ _
   | exact ih2 _ _ _ _ _ _ _ _ _ _ _ _ _ _ _
   | exact ih3 _ _ _ _ _ _ _ _ _ _ _ _ _ _ _ _
   | exact LeO.none _
   | refine LeO.ite ?_ ?_
   | refine LeO.bind ?_ (fun _ => ?_)
  ·intro y0 y1 y2 y3 y4 y5 y6 y7 y8 y9 y10
   unfold spec_soCounts.l1
   repeat' first
   | (with_reducible exact ih0 _ _ _ _ _ _ _)
   | (with_reducible exact ih1 _ _ _ _ _ _ _ _ _ _ _)
   | (with_reducible exact ih2 _ _ _ _ _ _ _ _ _ _ _ _ _ _ _)
   | (with_reducible exact ih3 _ _ _ _ _ _ _ _ _ _ _ _ _ _ _ _)
   | (with_reducible exact LeO.refl _)
   | (with_reducible exact LeO.none _)
   | (with_reducible refine LeO.ite ?_ ?_)
   | (with_reducible refine LeO.bind ?_ (fun _ => ?_))
   | exact ih0 _ _ _ _ _ _ _
   | exact ih1 _ _ _ _ _ _ _ _ _ _ _
   | exact ih2 _ _ _ _ _ _ _ _ _ _ _ _ _ _ _
   | exact ih3 _ _ _ _ _ _ _ _ _ _ _ _ _ _ _ _
   | exact LeO.none _
   | refine LeO.ite ?_ ?_
   | refine LeO.bind ?_ (fun _ => ?_)
  ·intro y0 y1 y2 y3 y4 y5 y6 y7 y8 y9 y10 y11 y12 y13 y14
   unfold spec_soCounts.l2
   repeat' first
   | (with_reducible exact ih0 _ _ _ _ _ _ _)
   | (with_reducible exact ih1 _ _ _ _ _ _ _ _ _ _ _)
   | (with_reducible exact ih2 _ _ _ _ _ _ _ _ _ _ _ _ _ _ _)
   | (with_reducible exact ih3 _ _ _ _ _ _ _ _ _ _ _ _ _ _ _ _)
   | (with_reducible exact LeO.refl _)
   | (with_reducible exact LeO.none _)
   | (with_reducible refine LeO.ite ?_ ?_)
   | (with_reducible refine LeO.bind ?_ (fun _ => ?_))
   | exact ih0 _ _ _ _ _ _ _
   | exact ih1 _ _ _ _ _ _ _ _ _ _ _
   | exact ih2 _ _ _ _ _ _ _ _ _ _ _ _ _ _ _
   | exact ih3 _ _ _ _ _ _ _ _ _ _ _ _ _ _ _ _
   | exact LeO.none _
   | refine LeO.ite ?_ ?_
   | refine LeO.bind ?_ (fun _ => ?_)
  ·intro y0 y1 y2 y3 y4 y5 y6 y7 y8 y9 y10 y11 y12 y13 y14 y15
   unfold spec_soCounts.j3
   repeat' first
   | (with_reducible exact ih0 _ _ _ _ _ _ _)
   | (with_reducible exact ih1 _ _ _ _ _ _ _ _ _ _ _)
   | (with_reducible exact ih2 _ _ _ _ _ _ _ _ _ _ _ _ _ _ _)
   | (with_reducible exact ih3 _ _ _ _ _ _ _ _ _ _ _ _ _ _ _ _)
   | (with_reducible exact LeO.refl _)
   | (with_reducible exact LeO.none _)
   | (with_reducible refine LeO.ite ?_ ?_)
   | (with_reducible refine LeO.bind ?_ (fun _ => ?_))
   | exact ih0 _ _ _ _ _ _ _
   | exact ih1 _ _ _ _ _ _ _ _ _ _ _
   | exact ih2 _ _ _ _ _ _ _ _ _ _ _ _ _ _ _
   | exact ih3 _ _ _ _ _ _ _ _ _ _ _ _ _ _ _ _
   | exact LeO.none _
   | refine LeO.ite ?_ ?_
   | refine LeO.bind ?_ (fun _ => ?_)
theorem spec_soCounts.mono : ∀ a0 a1 a2 k, LeO (spec_soCounts.f k a0 a1 a2) (spec_soCounts.f (k + 1) a0 a1 a2) := by
 intro a0 a1 a2 k
 obtain ⟨ih0, ih1, ih2, ih3⟩ := spec_soCounts.mono_l k
 unfold spec_soCounts.f
 repeat' first
   | (with_reducible exact ih0 _ _ _ _ _ _ _)
   | (with_reducible exact ih1 _ _ _ _ _ _ _ _ _ _ _)
   | (with_reducible exact ih2 _ _ _ _ _ _ _ _ _ _ _ _ _ _ _)
   | (with_reducible exact ih3 _ _ _ _ _ _ _ _ _ _ _ _ _ _ _ _)
   | (with_reducible exact LeO.refl _)
   | (with_reducible exact LeO.none _)
   | (with_reducible refine LeO.ite ?_ ?_)
   | (with_reducible refine LeO.bind ?_ (fun _ => ?_))
   | exact ih0 _ _ _ _ _ _ _
   | exact ih1 _ _ _ _ _ _ _ _ _ _ _
   | exact ih2 _ _ _ _ _ _ _ _ _ _ _ _ _ _ _
   | exact ih3 _ _ _ _ _ _ _ _ _ _ _ _ _ _ _ _
   | exact LeO.none _
   | refine LeO.ite ?_ ?_
   | refine LeO.bind ?_ (fun _ => ?_)
set_option maxHeartbeats 8000000 in
set_option maxRecDepth 100000 in
theorem spec_soCounts.calls (k : Nat) (A0 : Option Addr) (c0 : Nat) (l0 : List Int) (a1 : Int) (a2 : Int) (r : Int) (w : World) (hr0 : Kd.C (Kd.int .i64) w A0 l0.length l0) (hc0 : l0.length ≤ c0) (h : spec_soCounts.f k l0 a1 a2 = some r) :
  Calls Try.prog 28 #[.slice A0 l0.length c0, .int .i64 a1, .int .i64 a2] w fun e w' => e = .returned (.int .i64 r) ∧ Below w.heap.size w w' := by
 have HR0 := Aside0.mk hr0
 have HC0 := Aside0.mk hc0
 clear hr0 hc0
 have HB := Aside0.mk (Below.refl w.heap.size w)
 have H : ((spec_l1Most.f a2 0).bind fun t120 => (if 0 ≤ (wrap64 ((wrap64 (a1 + 1)) * (wrap64 (t120 + 1)))) then (if (wrap64 ((wrap64 (a1 + 1)) * (wrap64 (t120 + 1))) : Int).toNat ≤ 35184372088832 then ((some (List.replicate (wrap64 ((wrap64 (a1 + 1)) * (wrap64 (t120 + 1))) : Int).toNat 0 : List Int)).bind fun y121 => (if 0 < (y121.length : Int) then (spec_soCounts.l0 k a1 a2 (wrap64 (t120 + 1)) (y121.set (0 : Int).toNat 1) l0 (l0.length : Int) 0) else (none))) else (none)) else (none))) = some r := h
 clear h
 replace H := Option.bind_eq_some_iff.mp H
 obtain ⟨t120, A40, H⟩ := H
 replace H : (if 0 ≤ (wrap64 ((wrap64 (a1 + 1)) * (wrap64 (t120 + 1)))) then (if (wrap64 ((wrap64 (a1 + 1)) * (wrap64 (t120 + 1))) : Int).toNat ≤ 35184372088832 then ((some (List.replicate (wrap64 ((wrap64 (a1 + 1)) * (wrap64 (t120 + 1))) : Int).toNat 0 : List Int)).bind fun y121 => (if 0 < (y121.length : Int) then (spec_soCounts.l0 k a1 a2 (wrap64 (t120 + 1)) (y121.set (0 : Int).toNat 1) l0 (l0.length : Int) 0) else (none))) else (none)) else (none)) = some r := H
 have A4 := Aside0.mk A40
 clear A40
 obtain ⟨ji5, hji5⟩ : ∃ j_ : Int, (wrap64 ((wrap64 (a1 + 1)) * (wrap64 (t120 + 1)))) = j_ := ⟨_, rfl⟩
 replace H : (if 0 ≤ (ji5) then (if (ji5 : Int).toNat ≤ 35184372088832 then ((some (List.replicate (ji5 : Int).toNat 0 : List Int)).bind fun y121 => (if 0 < (y121.length : Int) then (spec_soCounts.l0 k a1 a2 (wrap64 (t120 + 1)) (y121.set (0 : Int).toNat 1) l0 (l0.length : Int) 0) else (none))) else (none)) else (none)) = some r := by first | (rw [hji5] at H; exact H) | (simp only [hji5] at H ⊢; exact H)
 (try rw [hji5] at A4)
 have hji5w : (IntKind.i64.wrap ((wrap64 (a1 + 1)) * (wrap64 (t120 + 1)))) = ji5 := (i64_w _).trans hji5
 by_cases c6 : 0 ≤ (ji5)
 ·rw [if_pos c6] at H
  have c6b0 := eq_true c6
  have c6b1 : decide (0 ≤ (ji5)) = true := decide_eq_true c6
  clear c6
  by_cases c7 : (ji5 : Int).toNat ≤ 35184372088832
  ·rw [if_pos c7] at H
   have c7b0 := eq_true c7
   have c7b1 : decide ((ji5 : Int).toNat ≤ 35184372088832) = true := decide_eq_true c7
   clear c7
   obtain ⟨y121, hy121⟩ : ∃ y_ : List Int, y_ = (List.replicate (ji5 : Int).toNat 0) := ⟨_, rfl⟩
   replace H : (if 0 < (y121.length : Int) then (spec_soCounts.l0 k a1 a2 (wrap64 (t120 + 1)) (y121.set (0 : Int).toNat 1) l0 (l0.length : Int) 0) else (none)) = some r := by first | (rw [hy121]; with_reducible exact H) | (have H2_ := (Option.bind_some _ _).symm.trans H; rw [hy121]; with_reducible exact H2_) | (have H2_ := (Option.bind_some _ _).symm.trans H; with_reducible exact H2_) | with_reducible exact H | (rw [hy121]; exact H) | exact H
   have Ny121 := Aside0.mk hy121
   clear hy121
   by_cases c8 : 0 < (y121.length : Int)
   ·rw [if_pos c8] at H
    have c8b0 : decide (0 < (y121.length : Int)) = true := decide_eq_true c8
    have c8b1 : decide (0 < y121.length) = true := decide_eq_true (by omega)
    clear c8
    obtain ⟨y124, hy124⟩ : ∃ y_ : List Int, y_ = (y121.set (0 : Int).toNat 1) := ⟨_, rfl⟩
    replace H : (spec_soCounts.l0 k a1 a2 (wrap64 (t120 + 1)) y124 l0 (l0.length : Int) 0) = some r := by first | (rw [hy124]; with_reducible exact H) | (have H2_ := (Option.bind_some _ _).symm.trans H; rw [hy124]; with_reducible exact H2_) | (have H2_ := (Option.bind_some _ _).symm.trans H; with_reducible exact H2_) | with_reducible exact H | (rw [hy124]; exact H) | exact H
    have Ny124 := Aside0.mk hy124
    clear hy124
    have H' := Aside0.mk H
    clear H
    go_enter Try.func28, Try.ntmps28
    go_wp2_with (first | (go_at_call 37; (with_reducible refine (spec_l1Most.calls a2 0 t120 _ A4.1).mono ?_); rintro e w' ⟨rfl, ⟨nd, rfl⟩⟩; (try first | exact ⟨rfl, _, World.drewN_drewN _ _ _⟩ | exact ⟨rfl, _, Eq.trans (World.drewN_drewN _ _ _) (congrArg (World.drewN _) (Nat.add_assoc _ _ _))⟩)) | ((with_reducible refine gate_dst (N := 26) rfl ?_); refine Kd.R_make (Kd.int .i64) _ 3 rfl (N := 26) rfl 22 _ _ rfl ji5 rfl rfl Try.underlying22 (.int .i64 0) 8 info3 rfl (by decide) (by omega) 0 (ok := fun _ => True) (okp := fun _ => True) rfl (fun _ hk => hk) trivial (of_decide_eq_true (by first | (with_reducible assumption) | assumption)) (Nat.le_trans (Nat.mul_le_mul_right _ (of_decide_eq_true (by first | (with_reducible assumption) | assumption) : ji5.toNat ≤ 35184372088832)) (by omega)) (Below.refl _ _) (Nat.le_refl _) ?_; intro v122 w10 ho11 hb hg_ hnew_; clear hg_ hnew_; (first | rw [← Ny121.1] at ho11 | (simp only [Int.reduceToNat] at ho11; rw [← Ny121.1] at ho11)); have n0_ := Aside0.mk (Kd.R_lower ho11 (below_size (by repeat (first | (with_reducible first | exact HB.1 | apply below_alloc | apply pw_below_drewN | apply below_drew1) | exact HB.1)))); have n1_ := Aside0.mk (below_step (by repeat (first | (with_reducible first | exact HB.1 | apply below_alloc | apply pw_below_drewN | apply below_drew1) | exact HB.1)) hb); clear HB; have HO123 := n0_; have HB := n1_; clear n0_ n1_; clear hb ho11; have p9 : 0 ≤ (0 : Int) := (by omega); have q9 : (0 : Int) < ((y121.length : Int) : Int) := of_decide_eq_true (by first | (with_reducible assumption) | assumption); have qi9 : (0 < y121.length) = True := eq_true (by omega); obtain ⟨go9, co9, eo9, gb9, gl9, cl9, HG9⟩ := Kd.R_form HO123.1 (by omega); (first | cases eo9 | (injection eo9 with ea_ en_ ec_; (first | subst ea_ | (injection ea_ with ea_; subst ea_)); subst ec_; clear en_)); have GB9 := Aside0.mk gb9; have GG9 := Aside0.mk HG9; clear gb9 gl9 HG9; obtain ⟨hx9_0, hf9_0⟩ := Kd.R_celln 0 HO123.1 (0 : Int) p9 q9; (try rw [show ((0 : Int)).toNat = 0 from rfl] at hx9_0); (try simp only [Nat.reduceMul, Nat.zero_mul, Nat.zero_add, Nat.reduceAdd] at hx9_0); (try rw [show ((0 : Int)).toNat = 0 from rfl] at hf9_0); (try simp only [Nat.reduceMul, Nat.zero_mul, Nat.zero_add, Nat.reduceAdd] at hf9_0); replace p9 := eq_true p9; replace q9 := eq_true q9; obtain ⟨hy12_, hz12_⟩ := Kd.R_celln 0 HO123.1 (0 : Int) (by omega) (of_decide_eq_true (by first | (with_reducible assumption) | assumption)); (try simp only [Int.reduceToNat, Int.toNat_zero, Int.toNat_ofNat, Nat.reduceMul, Nat.zero_mul, Nat.zero_add] at hy12_ hz12_); (try rw [show ((0 : Int)).toNat = 0 from rfl] at hy12_); (try rw [show ((0 : Int)).toNat = 0 from rfl] at hz12_); have HP12 := Kd.R_putg HO123.1 (0 : Int) 1) | ((with_reducible refine gate_store (t := 3) (p := 28) rfl ?_); (try (rw [drewN_self w10]; generalize hq_ : World.drewN w10 _ = w10; have n0_ := Aside0.mk (Kd.R_at hq_ HO123.1); have n1_ := Aside0.mk (below_at hq_ HB.1); clear hq_ HO123 HB; have HO123 := n0_; have HB := n1_; clear n0_ n1_; (try (obtain ⟨hy12_, hz12_⟩ := Kd.R_celln 0 HO123.1 (0 : Int) (by omega) (of_decide_eq_true (by first | (with_reducible assumption) | assumption)))); (try (try simp only [Int.reduceToNat, Int.toNat_zero, Int.toNat_ofNat, Nat.reduceMul, Nat.zero_mul, Nat.zero_add] at hy12_ hz12_)); (try (try rw [show ((0 : Int)).toNat = 0 from rfl] at hy12_)); (try (try rw [show ((0 : Int)).toNat = 0 from rfl] at hz12_)); (try (have HP12 := Kd.R_putg HO123.1 (0 : Int) 1)))); refine store_event (t := 3) (p := 28) (v := ?vo_w13) (w1 := (w10.setCell ⟨go9, (0 : Int).toNat, none⟩ (.int .i64 1))) ?hg ?ho ?hn ?hr ?_; (case ho => rfl); (case hg => rfl); (case hn => rfl); (case hr => first | (go_simp; done) | (go_simp; rfl)); intro w13 hw; have hg : w10.grownBy w13 (some go9) := (by rw [hw]; exact HP12.2); have hp_ : Kd.R (Kd.int .i64) 3 w13 w.heap.size (fun _ => True) (.slice (some ⟨go9, 0, none⟩) y121.length co9) y124 := (by rw [hw, Ny124.1]; exact HP12.1); clear HP12; have n0_ := Aside0.mk (hp_); have n1_ := Aside0.mk ((by rw [hw]; exact below_set (HB.1) GB9.1 : Below w.heap.size w w13)); clear HO123; clear HB; have HO123 := n0_; have HB := n1_; clear n0_ n1_; clear hg hw hp_))
    repeat (go_quiet (first | (go_at_call 37; (with_reducible refine (spec_l1Most.calls a2 0 t120 _ A4.1).mono ?_); rintro e w' ⟨rfl, ⟨nd, rfl⟩⟩; (try first | exact ⟨rfl, _, World.drewN_drewN _ _ _⟩ | exact ⟨rfl, _, Eq.trans (World.drewN_drewN _ _ _) (congrArg (World.drewN _) (Nat.add_assoc _ _ _))⟩)) | ((with_reducible refine gate_dst (N := 26) rfl ?_); refine Kd.R_make (Kd.int .i64) _ 3 rfl (N := 26) rfl 22 _ _ rfl ji5 rfl rfl Try.underlying22 (.int .i64 0) 8 info3 rfl (by decide) (by omega) 0 (ok := fun _ => True) (okp := fun _ => True) rfl (fun _ hk => hk) trivial (of_decide_eq_true (by first | (with_reducible assumption) | assumption)) (Nat.le_trans (Nat.mul_le_mul_right _ (of_decide_eq_true (by first | (with_reducible assumption) | assumption) : ji5.toNat ≤ 35184372088832)) (by omega)) (Below.refl _ _) (Nat.le_refl _) ?_; intro v122 w10 ho11 hb hg_ hnew_; clear hg_ hnew_; (first | rw [← Ny121.1] at ho11 | (simp only [Int.reduceToNat] at ho11; rw [← Ny121.1] at ho11)); have n0_ := Aside0.mk (Kd.R_lower ho11 (below_size (by repeat (first | (with_reducible first | exact HB.1 | apply below_alloc | apply pw_below_drewN | apply below_drew1) | exact HB.1)))); have n1_ := Aside0.mk (below_step (by repeat (first | (with_reducible first | exact HB.1 | apply below_alloc | apply pw_below_drewN | apply below_drew1) | exact HB.1)) hb); clear HB; have HO123 := n0_; have HB := n1_; clear n0_ n1_; clear hb ho11; have p9 : 0 ≤ (0 : Int) := (by omega); have q9 : (0 : Int) < ((y121.length : Int) : Int) := of_decide_eq_true (by first | (with_reducible assumption) | assumption); have qi9 : (0 < y121.length) = True := eq_true (by omega); obtain ⟨go9, co9, eo9, gb9, gl9, cl9, HG9⟩ := Kd.R_form HO123.1 (by omega); (first | cases eo9 | (injection eo9 with ea_ en_ ec_; (first | subst ea_ | (injection ea_ with ea_; subst ea_)); subst ec_; clear en_)); have GB9 := Aside0.mk gb9; have GG9 := Aside0.mk HG9; clear gb9 gl9 HG9; obtain ⟨hx9_0, hf9_0⟩ := Kd.R_celln 0 HO123.1 (0 : Int) p9 q9; (try rw [show ((0 : Int)).toNat = 0 from rfl] at hx9_0); (try simp only [Nat.reduceMul, Nat.zero_mul, Nat.zero_add, Nat.reduceAdd] at hx9_0); (try rw [show ((0 : Int)).toNat = 0 from rfl] at hf9_0); (try simp only [Nat.reduceMul, Nat.zero_mul, Nat.zero_add, Nat.reduceAdd] at hf9_0); replace p9 := eq_true p9; replace q9 := eq_true q9; obtain ⟨hy12_, hz12_⟩ := Kd.R_celln 0 HO123.1 (0 : Int) (by omega) (of_decide_eq_true (by first | (with_reducible assumption) | assumption)); (try simp only [Int.reduceToNat, Int.toNat_zero, Int.toNat_ofNat, Nat.reduceMul, Nat.zero_mul, Nat.zero_add] at hy12_ hz12_); (try rw [show ((0 : Int)).toNat = 0 from rfl] at hy12_); (try rw [show ((0 : Int)).toNat = 0 from rfl] at hz12_); have HP12 := Kd.R_putg HO123.1 (0 : Int) 1) | ((with_reducible refine gate_store (t := 3) (p := 28) rfl ?_); (try (rw [drewN_self w10]; generalize hq_ : World.drewN w10 _ = w10; have n0_ := Aside0.mk (Kd.R_at hq_ HO123.1); have n1_ := Aside0.mk (below_at hq_ HB.1); clear hq_ HO123 HB; have HO123 := n0_; have HB := n1_; clear n0_ n1_; (try (obtain ⟨hy12_, hz12_⟩ := Kd.R_celln 0 HO123.1 (0 : Int) (by omega) (of_decide_eq_true (by first | (with_reducible assumption) | assumption)))); (try (try simp only [Int.reduceToNat, Int.toNat_zero, Int.toNat_ofNat, Nat.reduceMul, Nat.zero_mul, Nat.zero_add] at hy12_ hz12_)); (try (try rw [show ((0 : Int)).toNat = 0 from rfl] at hy12_)); (try (try rw [show ((0 : Int)).toNat = 0 from rfl] at hz12_)); (try (have HP12 := Kd.R_putg HO123.1 (0 : Int) 1)))); refine store_event (t := 3) (p := 28) (v := ?vo_w13) (w1 := (w10.setCell ⟨go9, (0 : Int).toNat, none⟩ (.int .i64 1))) ?hg ?ho ?hn ?hr ?_; (case ho => rfl); (case hg => rfl); (case hn => rfl); (case hr => first | (go_simp; done) | (go_simp; rfl)); intro w13 hw; have hg : w10.grownBy w13 (some go9) := (by rw [hw]; exact HP12.2); have hp_ : Kd.R (Kd.int .i64) 3 w13 w.heap.size (fun _ => True) (.slice (some ⟨go9, 0, none⟩) y121.length co9) y124 := (by rw [hw, Ny124.1]; exact HP12.1); clear HP12; have n0_ := Aside0.mk (hp_); have n1_ := Aside0.mk ((by rw [hw]; exact below_set (HB.1) GB9.1 : Below w.heap.size w w13)); clear HO123; clear HB; have HO123 := n0_; have HB := n1_; clear n0_ n1_; clear hg hw hp_)); try go_wp2_with (first | (go_at_call 37; (with_reducible refine (spec_l1Most.calls a2 0 t120 _ A4.1).mono ?_); rintro e w' ⟨rfl, ⟨nd, rfl⟩⟩; (try first | exact ⟨rfl, _, World.drewN_drewN _ _ _⟩ | exact ⟨rfl, _, Eq.trans (World.drewN_drewN _ _ _) (congrArg (World.drewN _) (Nat.add_assoc _ _ _))⟩)) | ((with_reducible refine gate_dst (N := 26) rfl ?_); refine Kd.R_make (Kd.int .i64) _ 3 rfl (N := 26) rfl 22 _ _ rfl ji5 rfl rfl Try.underlying22 (.int .i64 0) 8 info3 rfl (by decide) (by omega) 0 (ok := fun _ => True) (okp := fun _ => True) rfl (fun _ hk => hk) trivial (of_decide_eq_true (by first | (with_reducible assumption) | assumption)) (Nat.le_trans (Nat.mul_le_mul_right _ (of_decide_eq_true (by first | (with_reducible assumption) | assumption) : ji5.toNat ≤ 35184372088832)) (by omega)) (Below.refl _ _) (Nat.le_refl _) ?_; intro v122 w10 ho11 hb hg_ hnew_; clear hg_ hnew_; (first | rw [← Ny121.1] at ho11 | (simp only [Int.reduceToNat] at ho11; rw [← Ny121.1] at ho11)); have n0_ := Aside0.mk (Kd.R_lower ho11 (below_size (by repeat (first | (with_reducible first | exact HB.1 | apply below_alloc | apply pw_below_drewN | apply below_drew1) | exact HB.1)))); have n1_ := Aside0.mk (below_step (by repeat (first | (with_reducible first | exact HB.1 | apply below_alloc | apply pw_below_drewN | apply below_drew1) | exact HB.1)) hb); clear HB; have HO123 := n0_; have HB := n1_; clear n0_ n1_; clear hb ho11; have p9 : 0 ≤ (0 : Int) := (by omega); have q9 : (0 : Int) < ((y121.length : Int) : Int) := of_decide_eq_true (by first | (with_reducible assumption) | assumption); have qi9 : (0 < y121.length) = True := eq_true (by omega); obtain ⟨go9, co9, eo9, gb9, gl9, cl9, HG9⟩ := Kd.R_form HO123.1 (by omega); (first | cases eo9 | (injection eo9 with ea_ en_ ec_; (first | subst ea_ | (injection ea_ with ea_; subst ea_)); subst ec_; clear en_)); have GB9 := Aside0.mk gb9; have GG9 := Aside0.mk HG9; clear gb9 gl9 HG9; obtain ⟨hx9_0, hf9_0⟩ := Kd.R_celln 0 HO123.1 (0 : Int) p9 q9; (try rw [show ((0 : Int)).toNat = 0 from rfl] at hx9_0); (try simp only [Nat.reduceMul, Nat.zero_mul, Nat.zero_add, Nat.reduceAdd] at hx9_0); (try rw [show ((0 : Int)).toNat = 0 from rfl] at hf9_0); (try simp only [Nat.reduceMul, Nat.zero_mul, Nat.zero_add, Nat.reduceAdd] at hf9_0); replace p9 := eq_true p9; replace q9 := eq_true q9; obtain ⟨hy12_, hz12_⟩ := Kd.R_celln 0 HO123.1 (0 : Int) (by omega) (of_decide_eq_true (by first | (with_reducible assumption) | assumption)); (try simp only [Int.reduceToNat, Int.toNat_zero, Int.toNat_ofNat, Nat.reduceMul, Nat.zero_mul, Nat.zero_add] at hy12_ hz12_); (try rw [show ((0 : Int)).toNat = 0 from rfl] at hy12_); (try rw [show ((0 : Int)).toNat = 0 from rfl] at hz12_); have HP12 := Kd.R_putg HO123.1 (0 : Int) 1) | ((with_reducible refine gate_store (t := 3) (p := 28) rfl ?_); (try (rw [drewN_self w10]; generalize hq_ : World.drewN w10 _ = w10; have n0_ := Aside0.mk (Kd.R_at hq_ HO123.1); have n1_ := Aside0.mk (below_at hq_ HB.1); clear hq_ HO123 HB; have HO123 := n0_; have HB := n1_; clear n0_ n1_; (try (obtain ⟨hy12_, hz12_⟩ := Kd.R_celln 0 HO123.1 (0 : Int) (by omega) (of_decide_eq_true (by first | (with_reducible assumption) | assumption)))); (try (try simp only [Int.reduceToNat, Int.toNat_zero, Int.toNat_ofNat, Nat.reduceMul, Nat.zero_mul, Nat.zero_add] at hy12_ hz12_)); (try (try rw [show ((0 : Int)).toNat = 0 from rfl] at hy12_)); (try (try rw [show ((0 : Int)).toNat = 0 from rfl] at hz12_)); (try (have HP12 := Kd.R_putg HO123.1 (0 : Int) 1)))); refine store_event (t := 3) (p := 28) (v := ?vo_w13) (w1 := (w10.setCell ⟨go9, (0 : Int).toNat, none⟩ (.int .i64 1))) ?hg ?ho ?hn ?hr ?_; (case ho => rfl); (case hg => rfl); (case hn => rfl); (case hr => first | (go_simp; done) | (go_simp; rfl)); intro w13 hw; have hg : w10.grownBy w13 (some go9) := (by rw [hw]; exact HP12.2); have hp_ : Kd.R (Kd.int .i64) 3 w13 w.heap.size (fun _ => True) (.slice (some ⟨go9, 0, none⟩) y121.length co9) y124 := (by rw [hw, Ny124.1]; exact HP12.1); clear HP12; have n0_ := Aside0.mk (hp_); have n1_ := Aside0.mk ((by rw [hw]; exact below_set (HB.1) GB9.1 : Below w.heap.size w w13)); clear HO123; clear HB; have HO123 := n0_; have HB := n1_; clear n0_ n1_; clear hg hw hp_)))
    go_loopg [8, 31] k (fun kq v8 v31 w' => ∃ (x8_1 : List Int) (x31_1 : Int), v31 = .int .i64 x31_1 ∧ Aside0 (spec_soCounts.l0 kq a1 a2 (wrap64 (t120 + 1)) x8_1 l0 (l0.length : Int) x31_1 = some r) ∧ Aside0 (kq ≤ k) ∧ Aside0 (Kd.R (Kd.int .i64) 3 w' w.heap.size (fun _ => True) v8 x8_1) ∧ Aside0 (Below w.heap.size w w'))
    case atStart => exact ⟨(y124), (0), (by first | rfl | (simp; done) | (simp [*]; done) | (simp [Go.IntWalk.i64_left]; done)), H', ⟨Nat.le_refl _⟩, ⟨by (with_reducible repeat (first | apply Kd.R_alloc | apply Kd.R_drewN | apply Kd.R_drew)); exact HO123.1⟩, ⟨by repeat (first | (with_reducible first | exact HB.1 | apply below_alloc | apply pw_below_drewN | apply below_drew1) | exact HB.1)⟩⟩
    case round =>
     clear H'
     try clear c2
     try clear p2
     try clear c6
     try clear c6b0
     try clear c6b1
     try clear p6
     try clear c7
     try clear c7b0
     try clear c7b1
     try clear c8
     try clear c8b0
     try clear c8b1
     try clear p9
     try clear q9
     try clear hx9
     try clear qi9
     try clear hf9
     try clear hx9_0
     try clear p9
     try clear q9
     obtain ⟨x8_1, x31_1, rfl, HA, HK1, HO_8, HB⟩ := hrel
     cases gk with
     | zero => exact absurd HA.1 (by simp [spec_soCounts.l0])
     | succ k1 =>
      have H := HA.1
      clear HA
      simp only [spec_soCounts.l0] at H
      by_cases c14 : x31_1 < (l0.length : Int)
      ·rw [if_pos c14] at H
       have c14b0 : decide (x31_1 < (l0.length : Int)) = true := decide_eq_true c14
       clear c14
       by_cases c15 : 0 ≤ x31_1
       ·rw [if_pos c15] at H
        have c15b0 : decide (0 ≤ x31_1) = true := decide_eq_true c15
        clear c15
        by_cases c16 : x31_1 < (l0.length : Int)
        ·rw [if_pos c16] at H
         have c16b0 : decide (x31_1 < (l0.length : Int)) = true := decide_eq_true c16
         clear c16
         by_cases c17 : 0 ≤ (x8_1.length : Int)
         ·rw [if_pos c17] at H
          have c17b0 := eq_true c17
          have c17b1 : decide (0 ≤ (x8_1.length : Int)) = true := decide_eq_true c17
          clear c17
          by_cases c18 : ((x8_1.length : Int) : Int).toNat ≤ 35184372088832
          ·rw [if_pos c18] at H
           have c18b0 := eq_true c18
           have c18b1 : decide (((x8_1.length : Int) : Int).toNat ≤ 35184372088832) = true := decide_eq_true c18
           clear c18
           obtain ⟨y128, hy128⟩ : ∃ y_ : List Int, y_ = (List.replicate ((x8_1.length : Int) : Int).toNat 0) := ⟨_, rfl⟩
           replace H : (spec_soCounts.l1 k1 a1 a2 (wrap64 (t120 + 1)) (rd l0 x31_1) y128 l0 (l0.length : Int) x31_1 x8_1 (x8_1.length : Int) 0) = some r := by first | (rw [hy128]; with_reducible exact H) | (have H2_ := (Option.bind_some _ _).symm.trans H; rw [hy128]; with_reducible exact H2_) | (have H2_ := (Option.bind_some _ _).symm.trans H; with_reducible exact H2_) | with_reducible exact H | (rw [hy128]; exact H) | exact H
           have Ny128 := Aside0.mk hy128
           clear hy128
           have H' := Aside0.mk H
           clear H
           have p127 : 0 ≤ (x31_1 : Int) := of_decide_eq_true (by first | (with_reducible assumption) | assumption)
           have q127 : x31_1 < (l0.length : Int) := of_decide_eq_true (by first | (with_reducible assumption) | assumption)
           obtain ⟨ad127, e127, hx127_0⟩ := Kd.at_int HR0.1 x31_1 p127 q127
           cases e127
           replace hx127_0 := (HB.1.cell (World.block_lt_of_cell? w _ hx127_0)).trans hx127_0
           replace p127 := eq_true p127
           replace q127 := eq_true q127
           obtain ⟨Ao19, co19, eo19⟩ := Kd.R_slice HO_8.1
           subst eo19
           go_wp2_with (first | ((with_reducible refine gate_dst (N := 37) rfl ?_); refine Kd.R_make (Kd.int .i64) _ 3 rfl (N := 37) rfl 22 _ _ rfl (x8_1.length : Int) rfl rfl Try.underlying22 (.int .i64 0) 8 info3 rfl (by decide) (by omega) 0 (ok := fun _ => True) (okp := fun _ => True) rfl (fun _ hk => hk) trivial (of_decide_eq_true (by first | (with_reducible assumption) | assumption)) (Nat.le_trans (Nat.mul_le_mul_right _ (of_decide_eq_true (by first | (with_reducible assumption) | assumption) : (x8_1.length : Int).toNat ≤ 35184372088832)) (by omega)) (Below.refl _ _) (Nat.le_refl _) ?_; intro v129 w20 ho21 hb hg_ hnew_; clear hg_ hnew_; (first | rw [← Ny128.1] at ho21 | (simp only [Int.reduceToNat] at ho21; rw [← Ny128.1] at ho21)); have n0_ := Aside0.mk (Kd.R_elder' (by (with_reducible repeat (first | apply Kd.R_alloc | apply Kd.R_drewN | apply Kd.R_drew)); exact HO_8.1) (Kd.R_base ho21) hb); have n1_ := Aside0.mk (Kd.R_lower (Kd.R_new' ho21 (Kd.R_lt (by (with_reducible repeat (first | apply Kd.R_alloc | apply Kd.R_drewN | apply Kd.R_drew)); exact HO_8.1))) (below_size (by repeat (first | (with_reducible first | exact HB.1 | apply below_alloc | apply pw_below_drewN | apply below_drew1) | exact HB.1)))); have n2_ := Aside0.mk (below_step (by repeat (first | (with_reducible first | exact HB.1 | apply below_alloc | apply pw_below_drewN | apply below_drew1) | exact HB.1)) hb); clear HO_8; clear HB; have HO_8 := n0_; have HO130 := n1_; have HB := n2_; clear n0_ n1_ n2_; clear hb ho21))
           repeat (go_quiet (first | ((with_reducible refine gate_dst (N := 37) rfl ?_); refine Kd.R_make (Kd.int .i64) _ 3 rfl (N := 37) rfl 22 _ _ rfl (x8_1.length : Int) rfl rfl Try.underlying22 (.int .i64 0) 8 info3 rfl (by decide) (by omega) 0 (ok := fun _ => True) (okp := fun _ => True) rfl (fun _ hk => hk) trivial (of_decide_eq_true (by first | (with_reducible assumption) | assumption)) (Nat.le_trans (Nat.mul_le_mul_right _ (of_decide_eq_true (by first | (with_reducible assumption) | assumption) : (x8_1.length : Int).toNat ≤ 35184372088832)) (by omega)) (Below.refl _ _) (Nat.le_refl _) ?_; intro v129 w20 ho21 hb hg_ hnew_; clear hg_ hnew_; (first | rw [← Ny128.1] at ho21 | (simp only [Int.reduceToNat] at ho21; rw [← Ny128.1] at ho21)); have n0_ := Aside0.mk (Kd.R_elder' (by (with_reducible repeat (first | apply Kd.R_alloc | apply Kd.R_drewN | apply Kd.R_drew)); exact HO_8.1) (Kd.R_base ho21) hb); have n1_ := Aside0.mk (Kd.R_lower (Kd.R_new' ho21 (Kd.R_lt (by (with_reducible repeat (first | apply Kd.R_alloc | apply Kd.R_drewN | apply Kd.R_drew)); exact HO_8.1))) (below_size (by repeat (first | (with_reducible first | exact HB.1 | apply below_alloc | apply pw_below_drewN | apply below_drew1) | exact HB.1)))); have n2_ := Aside0.mk (below_step (by repeat (first | (with_reducible first | exact HB.1 | apply below_alloc | apply pw_below_drewN | apply below_drew1) | exact HB.1)) hb); clear HO_8; clear HB; have HO_8 := n0_; have HO130 := n1_; have HB := n2_; clear n0_ n1_ n2_; clear hb ho21)); try go_wp2_with (first | ((with_reducible refine gate_dst (N := 37) rfl ?_); refine Kd.R_make (Kd.int .i64) _ 3 rfl (N := 37) rfl 22 _ _ rfl (x8_1.length : Int) rfl rfl Try.underlying22 (.int .i64 0) 8 info3 rfl (by decide) (by omega) 0 (ok := fun _ => True) (okp := fun _ => True) rfl (fun _ hk => hk) trivial (of_decide_eq_true (by first | (with_reducible assumption) | assumption)) (Nat.le_trans (Nat.mul_le_mul_right _ (of_decide_eq_true (by first | (with_reducible assumption) | assumption) : (x8_1.length : Int).toNat ≤ 35184372088832)) (by omega)) (Below.refl _ _) (Nat.le_refl _) ?_; intro v129 w20 ho21 hb hg_ hnew_; clear hg_ hnew_; (first | rw [← Ny128.1] at ho21 | (simp only [Int.reduceToNat] at ho21; rw [← Ny128.1] at ho21)); have n0_ := Aside0.mk (Kd.R_elder' (by (with_reducible repeat (first | apply Kd.R_alloc | apply Kd.R_drewN | apply Kd.R_drew)); exact HO_8.1) (Kd.R_base ho21) hb); have n1_ := Aside0.mk (Kd.R_lower (Kd.R_new' ho21 (Kd.R_lt (by (with_reducible repeat (first | apply Kd.R_alloc | apply Kd.R_drewN | apply Kd.R_drew)); exact HO_8.1))) (below_size (by repeat (first | (with_reducible first | exact HB.1 | apply below_alloc | apply pw_below_drewN | apply below_drew1) | exact HB.1)))); have n2_ := Aside0.mk (below_step (by repeat (first | (with_reducible first | exact HB.1 | apply below_alloc | apply pw_below_drewN | apply below_drew1) | exact HB.1)) hb); clear HO_8; clear HB; have HO_8 := n0_; have HO130 := n1_; have HB := n2_; clear n0_ n1_ n2_; clear hb ho21)))
           go_loopg [40] k1 (fun kq v40 w' => ∃ (x11_2 : List Int) (x40_2 : Int), v40 = .int .i64 x40_2 ∧ Aside0 (spec_soCounts.l1 kq a1 a2 (wrap64 (t120 + 1)) (rd l0 x31_1) x11_2 l0 (l0.length : Int) x31_1 x8_1 (x8_1.length : Int) x40_2 = some r) ∧ Aside0 (kq ≤ k1) ∧ Aside0 (Kd.R (Kd.int .i64) 3 w' w.heap.size (fun k_ => some k_ ≠ ((.slice Ao19 x8_1.length co19) : Value).ownBlock) v129 x11_2) ∧ Aside0 (Kd.R (Kd.int .i64) 3 w' w.heap.size (fun k_ => some k_ ≠ (v129 : Value).ownBlock) (.slice Ao19 x8_1.length co19) x8_1) ∧ Aside0 (Below w.heap.size w w'))
           case atStart => exact ⟨(y128), (0), (by first | rfl | (simp; done) | (simp [*]; done) | (simp [Go.IntWalk.i64_left]; done)), H', ⟨Nat.le_refl _⟩, ⟨by (with_reducible repeat (first | apply Kd.R_alloc | apply Kd.R_drewN | apply Kd.R_drew)); exact Kd.R_mono HO130.1 (fun _ hk => hk.2)⟩, ⟨by (with_reducible repeat (first | apply Kd.R_alloc | apply Kd.R_drewN | apply Kd.R_drew)); exact Kd.R_mono HO_8.1 (fun _ hk => hk.2)⟩, ⟨by repeat (first | (with_reducible first | exact HB.1 | apply below_alloc | apply pw_below_drewN | apply below_drew1) | exact HB.1)⟩⟩
           case round =>
            clear H'
            try clear c1
            try clear p1
            try clear q1
            try clear hx1
            try clear c2
            try clear p2
            try clear c6
            try clear c6b0
            try clear c6b1
            try clear p6
            try clear c7
            try clear c7b0
            try clear c7b1
            try clear c8
            try clear c8b0
            try clear c8b1
            try clear p9
            try clear q9
            try clear hx9
            try clear qi9
            try clear hf9
            try clear p12
            try clear q12
            try clear hx12
            try clear c14
            try clear c14b0
            try clear c15
            try clear c15b0
            try clear c16
            try clear c16b0
            try clear c17
            try clear c17b0
            try clear c17b1
            try clear c18
            try clear c18b0
            try clear c18b1
            try clear hx127_0
            try clear hx9_0
            try clear p127
            try clear p2
            try clear p6
            try clear p9
            try clear q127
            try clear q9
            obtain ⟨x11_2, x40_2, rfl, HA, HK2, HO_11, HO_38, HB⟩ := hrel
            cases gk with
            | zero => exact absurd HA.1 (by simp [spec_soCounts.l1])
            | succ k2 =>
             have H := HA.1
             clear HA
             simp only [spec_soCounts.l1] at H
             by_cases c22 : x40_2 < (x8_1.length : Int)
             ·rw [if_pos c22] at H
              have c22b0 : decide (x40_2 < (x8_1.length : Int)) = true := decide_eq_true c22
              clear c22
              by_cases c23 : 0 ≤ x40_2
              ·rw [if_pos c23] at H
               have c23b0 : decide (0 ≤ x40_2) = true := decide_eq_true c23
               clear c23
               by_cases c24 : x40_2 < (x8_1.length : Int)
               ·rw [if_pos c24] at H
                have c24b0 : decide (x40_2 < (x8_1.length : Int)) = true := decide_eq_true c24
                clear c24
                by_cases c25 : (rd x8_1 x40_2) = 0
                ·rw [if_pos c25] at H
                 have c25b0 : ((rd x8_1 x40_2) == 0) = true := beq_iff_eq.mpr c25
                 have c25b1 : ((rd x8_1 x40_2) != 0) = false := bne_eq_false_iff_eq.mpr c25
                 clear c25
                 have H' := Aside0.mk H
                 clear H
                 have p131 : 0 ≤ (x40_2 : Int) := of_decide_eq_true (by first | (with_reducible assumption) | assumption)
                 have q131 : x40_2 < (x8_1.length : Int) := of_decide_eq_true (by first | (with_reducible assumption) | assumption)
                 obtain ⟨ad131, e131, hx131_0⟩ := Kd.at_int (Kd.R_reads' HO_38.1).2.2 x40_2 p131 q131
                 cases e131
                 replace p131 := eq_true p131
                 replace q131 := eq_true q131
                 go_wp2
                 repeat (go_quiet (fail); try go_wp2)
                 go_roundg k2
                 case measure => have := HK1.1; have := HK2.1; omega
                 case rel => exact ⟨(x11_2), (wrap64 (x40_2 + 1)), (by first | rfl | (simp; done) | (simp [*]; done) | (simp [Go.IntWalk.i64_left]; done)), H', ⟨by have := HK1.1; have := HK2.1; omega⟩, ⟨by (with_reducible repeat (first | apply Kd.R_alloc | apply Kd.R_drewN | apply Kd.R_drew)); exact HO_11.1⟩, ⟨by (with_reducible repeat (first | apply Kd.R_alloc | apply Kd.R_drewN | apply Kd.R_drew)); exact HO_38.1⟩, ⟨by repeat (first | (with_reducible first | exact HB.1 | apply below_alloc | apply pw_below_drewN | apply below_drew1) | exact HB.1)⟩⟩
                ·rw [if_neg c25] at H
                 have c25b0 : ((rd x8_1 x40_2) == 0) = false := beq_eq_false_iff_ne.mpr c25
                 have c25b1 : ((rd x8_1 x40_2) != 0) = true := bne_iff_ne.mpr c25
                 by_cases c26 : (wrap64 (t120 + 1)) = 0
                 ·rw [if_pos c26] at H
                  exact absurd H (by simp)
                 ·rw [if_neg c26] at H
                  have c26b0 : ((wrap64 (t120 + 1)) == 0) = false := beq_eq_false_iff_ne.mpr c26
                  have c26b1 : ((wrap64 (t120 + 1)) != 0) = true := bne_iff_ne.mpr c26
                  have H' := Aside0.mk H
                  clear H
                  have p131 : 0 ≤ (x40_2 : Int) := of_decide_eq_true (by first | (with_reducible assumption) | assumption)
                  have q131 : x40_2 < (x8_1.length : Int) := of_decide_eq_true (by first | (with_reducible assumption) | assumption)
                  obtain ⟨ad131, e131, hx131_0⟩ := Kd.at_int (Kd.R_reads' HO_38.1).2.2 x40_2 p131 q131
                  cases e131
                  replace p131 := eq_true p131
                  replace q131 := eq_true q131
                  go_wp2
                  repeat (go_quiet (fail); try go_wp2)
                  go_loopg [16] k2 (fun kq v16 w' => ∃ (x11_3 : List Int) (x16_3 : Int), v16 = .int .i64 x16_3 ∧ Aside0 (spec_soCounts.l2 kq a1 a2 (wrap64 (t120 + 1)) (rd l0 x31_1) x11_3 (rd x8_1 x40_2) (wrap64 (Int.tdiv x40_2 (wrap64 (t120 + 1)))) (Int.tmod x40_2 (wrap64 (t120 + 1))) x16_3 l0 (l0.length : Int) x31_1 x8_1 (x8_1.length : Int) x40_2 = some r) ∧ Aside0 (kq ≤ k2) ∧ Aside0 (Kd.R (Kd.int .i64) 3 w' w.heap.size (fun k_ => some k_ ≠ ((.slice (some ad131) x8_1.length co19) : Value).ownBlock) v129 x11_3) ∧ Aside0 (Kd.R (Kd.int .i64) 3 w' w.heap.size (fun k_ => some k_ ≠ (v129 : Value).ownBlock) (.slice (some ad131) x8_1.length co19) x8_1) ∧ Aside0 (Below w.heap.size w w'))
                  case atStart => exact ⟨(x11_2), (0), (by first | rfl | (simp; done) | (simp [*]; done) | (simp [Go.IntWalk.i64_left]; done)), H', ⟨Nat.le_refl _⟩, ⟨by (with_reducible repeat (first | apply Kd.R_alloc | apply Kd.R_drewN | apply Kd.R_drew)); exact HO_11.1⟩, ⟨by (with_reducible repeat (first | apply Kd.R_alloc | apply Kd.R_drewN | apply Kd.R_drew)); exact HO_38.1⟩, ⟨by repeat (first | (with_reducible first | exact HB.1 | apply below_alloc | apply pw_below_drewN | apply below_drew1) | exact HB.1)⟩⟩
                  case round =>
                   clear H'
                   try clear c1
                   try clear p1
                   try clear q1
                   try clear hx1
                   try clear c2
                   try clear p2
                   try clear c6
                   try clear c6b0
                   try clear c6b1
                   try clear p6
                   try clear c7
                   try clear c7b0
                   try clear c7b1
                   try clear c8
                   try clear c8b0
                   try clear c8b1
                   try clear p9
                   try clear q9
                   try clear hx9
                   try clear qi9
                   try clear hf9
                   try clear p12
                   try clear q12
                   try clear hx12
                   try clear p13
                   try clear q13
                   try clear hx13
                   try clear c14
                   try clear c14b0
                   try clear c15
                   try clear c15b0
                   try clear c16
                   try clear c16b0
                   try clear c17
                   try clear c17b0
                   try clear c17b1
                   try clear c18
                   try clear c18b0
                   try clear c18b1
                   try clear c22
                   try clear c22b0
                   try clear c23
                   try clear c23b0
                   try clear c24
                   try clear c24b0
                   try clear c25
                   try clear c25b0
                   try clear c25b1
                   try clear c26
                   try clear c26b0
                   try clear c26b1
                   try clear hx127_0
                   try clear hx131_0
                   try clear hx9_0
                   try clear p1
                   try clear p12
                   try clear p127
                   try clear p131
                   try clear p2
                   try clear p6
                   try clear p9
                   try clear q1
                   try clear q12
                   try clear q127
                   try clear q131
                   try clear q9
                   obtain ⟨x11_3, x16_3, rfl, HA, HK3, HO_11, HO_38, HB⟩ := hrel
                   cases gk with
                   | zero => exact absurd HA.1 (by simp [spec_soCounts.l2])
                   | succ k3 =>
                    have H := HA.1
                    clear HA
                    simp only [spec_soCounts.l2] at H
                    have HC27 := Aside0.mk H
                    clear H
                    go_upto_region 14 with (fail)
                    repeat (go_quiet (fail); go_upto_region 14 with (fail))
                    go_cut [62] (fun v62 wc => ∃ (kq : Nat) (x62_26 : Bool), v62 = .bool x62_26 ∧ Aside0 (spec_soCounts.j3 kq a1 a2 (wrap64 (t120 + 1)) (rd l0 x31_1) x11_3 (rd x8_1 x40_2) (wrap64 (Int.tdiv x40_2 (wrap64 (t120 + 1)))) (Int.tmod x40_2 (wrap64 (t120 + 1))) x16_3 l0 (l0.length : Int) x31_1 x8_1 (x8_1.length : Int) x40_2 x62_26 = some r) ∧ Aside0 (kq ≤ k3) ∧ Aside0 (Kd.R (Kd.int .i64) 3 wc w.heap.size (fun k_ => some k_ ≠ ((.slice (some ad131) x8_1.length co19) : Value).ownBlock) v129 x11_3) ∧ Aside0 (Kd.R (Kd.int .i64) 3 wc w.heap.size (fun k_ => some k_ ≠ (v129 : Value).ownBlock) (.slice (some ad131) x8_1.length co19) x8_1) ∧ Aside0 (Below w.heap.size w wc))
                    case first =>
                     have H := HC27.1
                     clear HC27
                     by_cases c28 : x16_3 ≤ (rd l0 x31_1)
                     ·rw [if_pos c28] at H
                      have c28b0 : decide (x16_3 ≤ (rd l0 x31_1)) = true := decide_eq_true c28
                      clear c28
                      (first | rw [c28b0] | (simp only [i64_w, i32_w]; rw [c28b0]) | skip)
                      have H' := Aside0.mk H
                      clear H
                      go_wp2
                      repeat (go_quiet (fail); try go_wp2)
                      go_meet
                      case rel => exact ⟨_, (decide ((wrap64 ((wrap64 (Int.tdiv x40_2 (wrap64 (t120 + 1)))) + x16_3)) ≤ a1)), (by first | rfl | (simp; done) | (simp [*]; done) | (simp [Go.IntWalk.i64_left]; done)), H', ⟨by have := HK1.1; have := HK2.1; have := HK3.1; first | omega | exact Nat.le_refl _⟩, ⟨by (with_reducible repeat (first | apply Kd.R_alloc | apply Kd.R_drewN | apply Kd.R_drew)); exact HO_11.1⟩, ⟨by (with_reducible repeat (first | apply Kd.R_alloc | apply Kd.R_drewN | apply Kd.R_drew)); exact HO_38.1⟩, ⟨by repeat (first | (with_reducible first | exact HB.1 | apply below_alloc | apply pw_below_drewN | apply below_drew1) | exact HB.1)⟩⟩
                     ·rw [if_neg c28] at H
                      have c28b0 : decide (x16_3 ≤ (rd l0 x31_1)) = false := decide_eq_false c28
                      clear c28
                      (first | rw [c28b0] | (simp only [i64_w, i32_w]; rw [c28b0]) | skip)
                      have H' := Aside0.mk H
                      clear H
                      go_wp2
                      repeat (go_quiet (fail); try go_wp2)
                      go_meet
                      case rel => exact ⟨_, (false), (by first | rfl | (simp; done) | (simp [*]; done) | (simp [Go.IntWalk.i64_left]; done)), H', ⟨by have := HK1.1; have := HK2.1; have := HK3.1; first | omega | exact Nat.le_refl _⟩, ⟨by (with_reducible repeat (first | apply Kd.R_alloc | apply Kd.R_drewN | apply Kd.R_drew)); exact HO_11.1⟩, ⟨by (with_reducible repeat (first | apply Kd.R_alloc | apply Kd.R_drewN | apply Kd.R_drew)); exact HO_38.1⟩, ⟨by repeat (first | (with_reducible first | exact HB.1 | apply below_alloc | apply pw_below_drewN | apply below_drew1) | exact HB.1)⟩⟩
                    case rest =>
                     clear HC27
                     try clear c1
                     try clear p1
                     try clear q1
                     try clear hx1
                     try clear c2
                     try clear p2
                     try clear c6
                     try clear c6b0
                     try clear c6b1
                     try clear p6
                     try clear c7
                     try clear c7b0
                     try clear c7b1
                     try clear c8
                     try clear c8b0
                     try clear c8b1
                     try clear p9
                     try clear q9
                     try clear hx9
                     try clear qi9
                     try clear hf9
                     try clear p12
                     try clear q12
                     try clear hx12
                     try clear p13
                     try clear q13
                     try clear hx13
                     try clear c14
                     try clear c14b0
                     try clear c15
                     try clear c15b0
                     try clear c16
                     try clear c16b0
                     try clear c17
                     try clear c17b0
                     try clear c17b1
                     try clear c18
                     try clear c18b0
                     try clear c18b1
                     try clear c22
                     try clear c22b0
                     try clear c23
                     try clear c23b0
                     try clear c24
                     try clear c24b0
                     try clear c25
                     try clear c25b0
                     try clear c25b1
                     try clear c26
                     try clear c26b0
                     try clear c26b1
                     try clear c28
                     try clear c28b0
                     try clear hx127_0
                     try clear hx131_0
                     try clear hx9_0
                     try clear p1
                     try clear p12
                     try clear p127
                     try clear p13
                     try clear p131
                     try clear p2
                     try clear p6
                     try clear p9
                     try clear q1
                     try clear q12
                     try clear q127
                     try clear q13
                     try clear q131
                     try clear q9
                     obtain ⟨kq, x62_26, rfl, HA, HJ26, HO_11, HO_38, HB⟩ := hcut
                     cases kq with
                     | zero => exact absurd HA.1 (by simp [spec_soCounts.j3])
                     | succ kj26 =>
                      have H := HA.1
                      clear HA
                      simp only [spec_soCounts.j3] at H
                      by_cases c29 : x62_26 = true
                      ·subst c29
                       have H1 : (if a2 ≥ 0 then (if (wrap64 ((Int.tmod x40_2 (wrap64 (t120 + 1))) + (wrap64 (Int.tdiv x16_3 2)))) < (wrap64 (t120 + 1)) then (if 0 ≤ (wrap64 ((wrap64 ((wrap64 ((wrap64 (Int.tdiv x40_2 (wrap64 (t120 + 1)))) + x16_3)) * (wrap64 (t120 + 1)))) + (wrap64 ((Int.tmod x40_2 (wrap64 (t120 + 1))) + (wrap64 (Int.tdiv x16_3 2)))))) then (if (wrap64 ((wrap64 ((wrap64 ((wrap64 (Int.tdiv x40_2 (wrap64 (t120 + 1)))) + x16_3)) * (wrap64 (t120 + 1)))) + (wrap64 ((Int.tmod x40_2 (wrap64 (t120 + 1))) + (wrap64 (Int.tdiv x16_3 2)))))) < (x11_3.length : Int) then ((spec_l1Least.f (wrap64 ((rd x11_3 (wrap64 ((wrap64 ((wrap64 ((wrap64 (Int.tdiv x40_2 (wrap64 (t120 + 1)))) + x16_3)) * (wrap64 (t120 + 1)))) + (wrap64 ((Int.tmod x40_2 (wrap64 (t120 + 1))) + (wrap64 (Int.tdiv x16_3 2))))))) + (rd x8_1 x40_2))) 1000000000001).bind fun t133 => (spec_soCounts.l2 kj26 a1 a2 (wrap64 (t120 + 1)) (rd l0 x31_1) (x11_3.set ((wrap64 ((wrap64 ((wrap64 ((wrap64 (Int.tdiv x40_2 (wrap64 (t120 + 1)))) + x16_3)) * (wrap64 (t120 + 1)))) + (wrap64 ((Int.tmod x40_2 (wrap64 (t120 + 1))) + (wrap64 (Int.tdiv x16_3 2)))))) : Int).toNat t133) (rd x8_1 x40_2) (wrap64 (Int.tdiv x40_2 (wrap64 (t120 + 1)))) (Int.tmod x40_2 (wrap64 (t120 + 1))) (wrap64 (x16_3 + 1)) l0 (l0.length : Int) x31_1 x8_1 (x8_1.length : Int) x40_2)) else (none)) else (none)) else (spec_soCounts.l2 kj26 a1 a2 (wrap64 (t120 + 1)) (rd l0 x31_1) x11_3 (rd x8_1 x40_2) (wrap64 (Int.tdiv x40_2 (wrap64 (t120 + 1)))) (Int.tmod x40_2 (wrap64 (t120 + 1))) (wrap64 (x16_3 + 1)) l0 (l0.length : Int) x31_1 x8_1 (x8_1.length : Int) x40_2)) else (if (Int.tmod x40_2 (wrap64 (t120 + 1))) < (wrap64 (t120 + 1)) then (if 0 ≤ (wrap64 ((wrap64 ((wrap64 ((wrap64 (Int.tdiv x40_2 (wrap64 (t120 + 1)))) + x16_3)) * (wrap64 (t120 + 1)))) + (Int.tmod x40_2 (wrap64 (t120 + 1))))) then (if (wrap64 ((wrap64 ((wrap64 ((wrap64 (Int.tdiv x40_2 (wrap64 (t120 + 1)))) + x16_3)) * (wrap64 (t120 + 1)))) + (Int.tmod x40_2 (wrap64 (t120 + 1))))) < (x11_3.length : Int) then ((spec_l1Least.f (wrap64 ((rd x11_3 (wrap64 ((wrap64 ((wrap64 ((wrap64 (Int.tdiv x40_2 (wrap64 (t120 + 1)))) + x16_3)) * (wrap64 (t120 + 1)))) + (Int.tmod x40_2 (wrap64 (t120 + 1)))))) + (rd x8_1 x40_2))) 1000000000001).bind fun t136 => (spec_soCounts.l2 kj26 a1 a2 (wrap64 (t120 + 1)) (rd l0 x31_1) (x11_3.set ((wrap64 ((wrap64 ((wrap64 ((wrap64 (Int.tdiv x40_2 (wrap64 (t120 + 1)))) + x16_3)) * (wrap64 (t120 + 1)))) + (Int.tmod x40_2 (wrap64 (t120 + 1))))) : Int).toNat t136) (rd x8_1 x40_2) (wrap64 (Int.tdiv x40_2 (wrap64 (t120 + 1)))) (Int.tmod x40_2 (wrap64 (t120 + 1))) (wrap64 (x16_3 + 1)) l0 (l0.length : Int) x31_1 x8_1 (x8_1.length : Int) x40_2)) else (none)) else (none)) else (spec_soCounts.l2 kj26 a1 a2 (wrap64 (t120 + 1)) (rd l0 x31_1) x11_3 (rd x8_1 x40_2) (wrap64 (Int.tdiv x40_2 (wrap64 (t120 + 1)))) (Int.tmod x40_2 (wrap64 (t120 + 1))) (wrap64 (x16_3 + 1)) l0 (l0.length : Int) x31_1 x8_1 (x8_1.length : Int) x40_2))) = some r := by rw [if_pos rfl] at H; exact H
                       clear H
                       have H := H1
                       clear H1
                       by_cases c30 : a2 ≥ 0
                       ·rw [if_pos c30] at H
                        have c30b0 : decide (0 ≤ a2) = true := decide_eq_true c30
                        clear c30
                        by_cases c31 : (wrap64 ((Int.tmod x40_2 (wrap64 (t120 + 1))) + (wrap64 (Int.tdiv x16_3 2)))) < (wrap64 (t120 + 1))
                        ·rw [if_pos c31] at H
                         have c31b0 : decide ((wrap64 ((Int.tmod x40_2 (wrap64 (t120 + 1))) + (wrap64 (Int.tdiv x16_3 2)))) < (wrap64 (t120 + 1))) = true := decide_eq_true c31
                         clear c31
                         obtain ⟨ji32, hji32⟩ : ∃ j_ : Int, (wrap64 ((wrap64 ((wrap64 ((wrap64 (Int.tdiv x40_2 (wrap64 (t120 + 1)))) + x16_3)) * (wrap64 (t120 + 1)))) + (wrap64 ((Int.tmod x40_2 (wrap64 (t120 + 1))) + (wrap64 (Int.tdiv x16_3 2)))))) = j_ := ⟨_, rfl⟩
                         replace H : (if 0 ≤ (ji32) then (if (ji32) < (x11_3.length : Int) then ((spec_l1Least.f (wrap64 ((rd x11_3 (ji32)) + (rd x8_1 x40_2))) 1000000000001).bind fun t133 => (spec_soCounts.l2 kj26 a1 a2 (wrap64 (t120 + 1)) (rd l0 x31_1) (x11_3.set ((ji32) : Int).toNat t133) (rd x8_1 x40_2) (wrap64 (Int.tdiv x40_2 (wrap64 (t120 + 1)))) (Int.tmod x40_2 (wrap64 (t120 + 1))) (wrap64 (x16_3 + 1)) l0 (l0.length : Int) x31_1 x8_1 (x8_1.length : Int) x40_2)) else (none)) else (none)) = some r := by first | (rw [hji32] at H; exact H) | (simp only [hji32] at H ⊢; exact H)
                         have hji32w : (IntKind.i64.wrap ((wrap64 ((wrap64 ((wrap64 (Int.tdiv x40_2 (wrap64 (t120 + 1)))) + x16_3)) * (wrap64 (t120 + 1)))) + (wrap64 ((Int.tmod x40_2 (wrap64 (t120 + 1))) + (wrap64 (Int.tdiv x16_3 2)))))) = ji32 := (i64_w _).trans hji32
                         by_cases c33 : 0 ≤ (ji32)
                         ·rw [if_pos c33] at H
                          have c33b0 : decide (0 ≤ (ji32)) = true := decide_eq_true c33
                          clear c33
                          by_cases c34 : (ji32) < (x11_3.length : Int)
                          ·rw [if_pos c34] at H
                           have c34b0 : decide ((ji32) < (x11_3.length : Int)) = true := decide_eq_true c34
                           clear c34
                           replace H := Option.bind_eq_some_iff.mp H
                           obtain ⟨t133, A350, H⟩ := H
                           replace H : (spec_soCounts.l2 kj26 a1 a2 (wrap64 (t120 + 1)) (rd l0 x31_1) (x11_3.set ((ji32) : Int).toNat t133) (rd x8_1 x40_2) (wrap64 (Int.tdiv x40_2 (wrap64 (t120 + 1)))) (Int.tmod x40_2 (wrap64 (t120 + 1))) (wrap64 (x16_3 + 1)) l0 (l0.length : Int) x31_1 x8_1 (x8_1.length : Int) x40_2) = some r := H
                           have A35 := Aside0.mk A350
                           clear A350
                           obtain ⟨y134, hy134⟩ : ∃ y_ : List Int, y_ = (x11_3.set ((ji32) : Int).toNat t133) := ⟨_, rfl⟩
                           replace H : (spec_soCounts.l2 kj26 a1 a2 (wrap64 (t120 + 1)) (rd l0 x31_1) y134 (rd x8_1 x40_2) (wrap64 (Int.tdiv x40_2 (wrap64 (t120 + 1)))) (Int.tmod x40_2 (wrap64 (t120 + 1))) (wrap64 (x16_3 + 1)) l0 (l0.length : Int) x31_1 x8_1 (x8_1.length : Int) x40_2) = some r := by first | (rw [hy134]; with_reducible exact H) | (have H2_ := (Option.bind_some _ _).symm.trans H; rw [hy134]; with_reducible exact H2_) | (have H2_ := (Option.bind_some _ _).symm.trans H; with_reducible exact H2_) | with_reducible exact H | (rw [hy134]; exact H) | exact H
                           have Ny134 := Aside0.mk hy134
                           clear hy134
                           have H' := Aside0.mk H
                           clear H
                           obtain ⟨Ao37, co37, eo37⟩ := Kd.R_slice HO_11.1
                           subst eo37
                           have p132 : 0 ≤ ((ji32) : Int) := of_decide_eq_true (by first | (with_reducible assumption) | assumption)
                           have q132 : (ji32) < (x11_3.length : Int) := of_decide_eq_true (by first | (with_reducible assumption) | assumption)
                           obtain ⟨ad132, e132, hx132_0⟩ := Kd.at_int (Kd.R_reads' HO_11.1).2.2 (ji32) p132 q132
                           cases e132
                           replace p132 := eq_true p132
                           replace q132 := eq_true q132
                           go_wp2_with (first | (go_at_call 38; (with_reducible refine (spec_l1Least.calls (wrap64 ((rd x11_3 (ji32)) + (rd x8_1 x40_2))) 1000000000001 t133 _ A35.1).mono ?_); rintro e w' ⟨rfl, ⟨nd, rfl⟩⟩; (try first | exact ⟨rfl, _, World.drewN_drewN _ _ _⟩ | exact ⟨rfl, _, Eq.trans (World.drewN_drewN _ _ _) (congrArg (World.drewN _) (Nat.add_assoc _ _ _))⟩); have p36 : 0 ≤ ((ji32) : Int) := of_decide_eq_true (by first | (with_reducible assumption) | assumption); have q36 : ((ji32) : Int) < ((x11_3.length : Int) : Int) := of_decide_eq_true (by first | (with_reducible assumption) | assumption); obtain ⟨go36, co36, eo36, gb36, gl36, cl36, HG36⟩ := Kd.R_form HO_11.1 (by omega); (first | cases eo36 | (injection eo36 with ea_ en_ ec_; (first | subst ea_ | (injection ea_ with ea_; subst ea_)); subst ec_; clear en_)); have GB36 := Aside0.mk gb36; have GG36 := Aside0.mk HG36; clear gb36 gl36 HG36; (first | simp only [add_plain] at hx132_0 | skip); obtain ⟨hx36_0, hf36_0⟩ := Kd.R_celln 0 HO_11.1 ((ji32) : Int) p36 q36; replace p36 := eq_true p36; replace q36 := eq_true q36; obtain ⟨hy38_, hz38_⟩ := Kd.R_celln 0 HO_11.1 ((ji32) : Int) (of_decide_eq_true (by first | (with_reducible assumption) | assumption)) (of_decide_eq_true (by first | (with_reducible assumption) | assumption)); have HP38 := Kd.R_putg HO_11.1 ((ji32) : Int) t133) | ((with_reducible refine gate_store (t := 3) (p := 91) rfl ?_); (try (rw [drewN_self wc]; generalize hq_ : World.drewN wc _ = wc; have n0_ := Aside0.mk (Kd.R_at hq_ HO_11.1); have n1_ := Aside0.mk (Kd.R_at hq_ HO_38.1); have n2_ := Aside0.mk (below_at hq_ HB.1); clear hq_ HO_11 HO_38 HB; have HO_11 := n0_; have HO_38 := n1_; have HB := n2_; clear n0_ n1_ n2_; (try (obtain ⟨hy38_, hz38_⟩ := Kd.R_celln 0 HO_11.1 ((ji32) : Int) (of_decide_eq_true (by first | (with_reducible assumption) | assumption)) (of_decide_eq_true (by first | (with_reducible assumption) | assumption)))); (try (have HP38 := Kd.R_putg HO_11.1 ((ji32) : Int) t133)))); refine store_event (t := 3) (p := 91) (v := ?vo_w39) (w1 := (wc.setCell ⟨go36, ((ji32) : Int).toNat, none⟩ (.int .i64 t133))) ?hg ?ho ?hn ?hr ?_; (case ho => rfl); (case hg => rfl); (case hn => rfl); (case hr => first | (go_simp; done) | (go_simp; rfl)); intro w39 hw; have hg : wc.grownBy w39 (some go36) := (by rw [hw]; exact HP38.2); have hp_ : Kd.R (Kd.int .i64) 3 w39 w.heap.size (fun k_ => some k_ ≠ (.slice (some ad131) x8_1.length co19 : Value).ownBlock) (.slice (some ⟨go36, 0, none⟩) x11_3.length co37) y134 := (by rw [hw, Ny134.1]; exact HP38.1); clear HP38; have n0_ := Aside0.mk (hp_); have n1_ := Aside0.mk (Kd.R_after (v := (.slice (some ⟨go36, 0, none⟩) x11_3.length co37)) (v1 := (.slice (some ⟨go36, 0, none⟩) x11_3.length co37)) (ok := (fun _ => True)) (by (with_reducible repeat (first | apply Kd.R_alloc | apply Kd.R_drewN | apply Kd.R_drew)); exact Kd.R_mono HO_38.1 (fun _ hk => ⟨trivial, hk⟩)) hg (.inl rfl)); have n2_ := Aside0.mk ((by rw [hw]; exact below_set (HB.1) GB36.1 : Below w.heap.size w w39)); clear HO_11; clear HO_38; clear HB; have HO_11 := n0_; have HO_38 := n1_; have HB := n2_; clear n0_ n1_ n2_; clear hg hw hp_))
                           repeat (go_quiet (first | (go_at_call 38; (with_reducible refine (spec_l1Least.calls (wrap64 ((rd x11_3 (ji32)) + (rd x8_1 x40_2))) 1000000000001 t133 _ A35.1).mono ?_); rintro e w' ⟨rfl, ⟨nd, rfl⟩⟩; (try first | exact ⟨rfl, _, World.drewN_drewN _ _ _⟩ | exact ⟨rfl, _, Eq.trans (World.drewN_drewN _ _ _) (congrArg (World.drewN _) (Nat.add_assoc _ _ _))⟩); have p36 : 0 ≤ ((ji32) : Int) := of_decide_eq_true (by first | (with_reducible assumption) | assumption); have q36 : ((ji32) : Int) < ((x11_3.length : Int) : Int) := of_decide_eq_true (by first | (with_reducible assumption) | assumption); obtain ⟨go36, co36, eo36, gb36, gl36, cl36, HG36⟩ := Kd.R_form HO_11.1 (by omega); (first | cases eo36 | (injection eo36 with ea_ en_ ec_; (first | subst ea_ | (injection ea_ with ea_; subst ea_)); subst ec_; clear en_)); have GB36 := Aside0.mk gb36; have GG36 := Aside0.mk HG36; clear gb36 gl36 HG36; (first | simp only [add_plain] at hx132_0 | skip); obtain ⟨hx36_0, hf36_0⟩ := Kd.R_celln 0 HO_11.1 ((ji32) : Int) p36 q36; replace p36 := eq_true p36; replace q36 := eq_true q36; obtain ⟨hy38_, hz38_⟩ := Kd.R_celln 0 HO_11.1 ((ji32) : Int) (of_decide_eq_true (by first | (with_reducible assumption) | assumption)) (of_decide_eq_true (by first | (with_reducible assumption) | assumption)); have HP38 := Kd.R_putg HO_11.1 ((ji32) : Int) t133) | ((with_reducible refine gate_store (t := 3) (p := 91) rfl ?_); (try (rw [drewN_self wc]; generalize hq_ : World.drewN wc _ = wc; have n0_ := Aside0.mk (Kd.R_at hq_ HO_11.1); have n1_ := Aside0.mk (Kd.R_at hq_ HO_38.1); have n2_ := Aside0.mk (below_at hq_ HB.1); clear hq_ HO_11 HO_38 HB; have HO_11 := n0_; have HO_38 := n1_; have HB := n2_; clear n0_ n1_ n2_; (try (obtain ⟨hy38_, hz38_⟩ := Kd.R_celln 0 HO_11.1 ((ji32) : Int) (of_decide_eq_true (by first | (with_reducible assumption) | assumption)) (of_decide_eq_true (by first | (with_reducible assumption) | assumption)))); (try (have HP38 := Kd.R_putg HO_11.1 ((ji32) : Int) t133)))); refine store_event (t := 3) (p := 91) (v := ?vo_w39) (w1 := (wc.setCell ⟨go36, ((ji32) : Int).toNat, none⟩ (.int .i64 t133))) ?hg ?ho ?hn ?hr ?_; (case ho => rfl); (case hg => rfl); (case hn => rfl); (case hr => first | (go_simp; done) | (go_simp; rfl)); intro w39 hw; have hg : wc.grownBy w39 (some go36) := (by rw [hw]; exact HP38.2); have hp_ : Kd.R (Kd.int .i64) 3 w39 w.heap.size (fun k_ => some k_ ≠ (.slice (some ad131) x8_1.length co19 : Value).ownBlock) (.slice (some ⟨go36, 0, none⟩) x11_3.length co37) y134 := (by rw [hw, Ny134.1]; exact HP38.1); clear HP38; have n0_ := Aside0.mk (hp_); have n1_ := Aside0.mk (Kd.R_after (v := (.slice (some ⟨go36, 0, none⟩) x11_3.length co37)) (v1 := (.slice (some ⟨go36, 0, none⟩) x11_3.length co37)) (ok := (fun _ => True)) (by (with_reducible repeat (first | apply Kd.R_alloc | apply Kd.R_drewN | apply Kd.R_drew)); exact Kd.R_mono HO_38.1 (fun _ hk => ⟨trivial, hk⟩)) hg (.inl rfl)); have n2_ := Aside0.mk ((by rw [hw]; exact below_set (HB.1) GB36.1 : Below w.heap.size w w39)); clear HO_11; clear HO_38; clear HB; have HO_11 := n0_; have HO_38 := n1_; have HB := n2_; clear n0_ n1_ n2_; clear hg hw hp_)); try go_wp2_with (first | (go_at_call 38; (with_reducible refine (spec_l1Least.calls (wrap64 ((rd x11_3 (ji32)) + (rd x8_1 x40_2))) 1000000000001 t133 _ A35.1).mono ?_); rintro e w' ⟨rfl, ⟨nd, rfl⟩⟩; (try first | exact ⟨rfl, _, World.drewN_drewN _ _ _⟩ | exact ⟨rfl, _, Eq.trans (World.drewN_drewN _ _ _) (congrArg (World.drewN _) (Nat.add_assoc _ _ _))⟩); have p36 : 0 ≤ ((ji32) : Int) := of_decide_eq_true (by first | (with_reducible assumption) | assumption); have q36 : ((ji32) : Int) < ((x11_3.length : Int) : Int) := of_decide_eq_true (by first | (with_reducible assumption) | assumption); obtain ⟨go36, co36, eo36, gb36, gl36, cl36, HG36⟩ := Kd.R_form HO_11.1 (by omega); (first | cases eo36 | (injection eo36 with ea_ en_ ec_; (first | subst ea_ | (injection ea_ with ea_; subst ea_)); subst ec_; clear en_)); have GB36 := Aside0.mk gb36; have GG36 := Aside0.mk HG36; clear gb36 gl36 HG36; (first | simp only [add_plain] at hx132_0 | skip); obtain ⟨hx36_0, hf36_0⟩ := Kd.R_celln 0 HO_11.1 ((ji32) : Int) p36 q36; replace p36 := eq_true p36; replace q36 := eq_true q36; obtain ⟨hy38_, hz38_⟩ := Kd.R_celln 0 HO_11.1 ((ji32) : Int) (of_decide_eq_true (by first | (with_reducible assumption) | assumption)) (of_decide_eq_true (by first | (with_reducible assumption) | assumption)); have HP38 := Kd.R_putg HO_11.1 ((ji32) : Int) t133) | ((with_reducible refine gate_store (t := 3) (p := 91) rfl ?_); (try (rw [drewN_self wc]; generalize hq_ : World.drewN wc _ = wc; have n0_ := Aside0.mk (Kd.R_at hq_ HO_11.1); have n1_ := Aside0.mk (Kd.R_at hq_ HO_38.1); have n2_ := Aside0.mk (below_at hq_ HB.1); clear hq_ HO_11 HO_38 HB; have HO_11 := n0_; have HO_38 := n1_; have HB := n2_; clear n0_ n1_ n2_; (try (obtain ⟨hy38_, hz38_⟩ := Kd.R_celln 0 HO_11.1 ((ji32) : Int) (of_decide_eq_true (by first | (with_reducible assumption) | assumption)) (of_decide_eq_true (by first | (with_reducible assumption) | assumption)))); (try (have HP38 := Kd.R_putg HO_11.1 ((ji32) : Int) t133)))); refine store_event (t := 3) (p := 91) (v := ?vo_w39) (w1 := (wc.setCell ⟨go36, ((ji32) : Int).toNat, none⟩ (.int .i64 t133))) ?hg ?ho ?hn ?hr ?_; (case ho => rfl); (case hg => rfl); (case hn => rfl); (case hr => first | (go_simp; done) | (go_simp; rfl)); intro w39 hw; have hg : wc.grownBy w39 (some go36) := (by rw [hw]; exact HP38.2); have hp_ : Kd.R (Kd.int .i64) 3 w39 w.heap.size (fun k_ => some k_ ≠ (.slice (some ad131) x8_1.length co19 : Value).ownBlock) (.slice (some ⟨go36, 0, none⟩) x11_3.length co37) y134 := (by rw [hw, Ny134.1]; exact HP38.1); clear HP38; have n0_ := Aside0.mk (hp_); have n1_ := Aside0.mk (Kd.R_after (v := (.slice (some ⟨go36, 0, none⟩) x11_3.length co37)) (v1 := (.slice (some ⟨go36, 0, none⟩) x11_3.length co37)) (ok := (fun _ => True)) (by (with_reducible repeat (first | apply Kd.R_alloc | apply Kd.R_drewN | apply Kd.R_drew)); exact Kd.R_mono HO_38.1 (fun _ hk => ⟨trivial, hk⟩)) hg (.inl rfl)); have n2_ := Aside0.mk ((by rw [hw]; exact below_set (HB.1) GB36.1 : Below w.heap.size w w39)); clear HO_11; clear HO_38; clear HB; have HO_11 := n0_; have HO_38 := n1_; have HB := n2_; clear n0_ n1_ n2_; clear hg hw hp_)))
                           go_roundg kj26
                           case measure => have := HK1.1; have := HK2.1; have := HK3.1; have := HJ26.1; omega
                           case rel => exact ⟨(y134), (wrap64 (x16_3 + 1)), (by first | rfl | (simp; done) | (simp [*]; done) | (simp [Go.IntWalk.i64_left]; done)), H', ⟨by have := HK1.1; have := HK2.1; have := HK3.1; have := HJ26.1; omega⟩, ⟨by (with_reducible repeat (first | apply Kd.R_alloc | apply Kd.R_drewN | apply Kd.R_drew)); exact HO_11.1⟩, ⟨by (with_reducible repeat (first | apply Kd.R_alloc | apply Kd.R_drewN | apply Kd.R_drew)); exact Kd.R_mono HO_38.1 (fun _ hk => hk.2)⟩, ⟨by repeat (first | (with_reducible first | exact HB.1 | apply below_alloc | apply pw_below_drewN | apply below_drew1) | exact HB.1)⟩⟩
                          ·rw [if_neg c34] at H
                           exact absurd H (by simp)
                         ·rw [if_neg c33] at H
                          exact absurd H (by simp)
                        ·rw [if_neg c31] at H
                         have c31b0 : decide ((wrap64 ((Int.tmod x40_2 (wrap64 (t120 + 1))) + (wrap64 (Int.tdiv x16_3 2)))) < (wrap64 (t120 + 1))) = false := decide_eq_false c31
                         clear c31
                         have H' := Aside0.mk H
                         clear H
                         go_wp2
                         repeat (go_quiet (fail); try go_wp2)
                         go_roundg kj26
                         case measure => have := HK1.1; have := HK2.1; have := HK3.1; have := HJ26.1; omega
                         case rel => exact ⟨(x11_3), (wrap64 (x16_3 + 1)), (by first | rfl | (simp; done) | (simp [*]; done) | (simp [Go.IntWalk.i64_left]; done)), H', ⟨by have := HK1.1; have := HK2.1; have := HK3.1; have := HJ26.1; omega⟩, ⟨by (with_reducible repeat (first | apply Kd.R_alloc | apply Kd.R_drewN | apply Kd.R_drew)); exact HO_11.1⟩, ⟨by (with_reducible repeat (first | apply Kd.R_alloc | apply Kd.R_drewN | apply Kd.R_drew)); exact HO_38.1⟩, ⟨by repeat (first | (with_reducible first | exact HB.1 | apply below_alloc | apply pw_below_drewN | apply below_drew1) | exact HB.1)⟩⟩
                       ·rw [if_neg c30] at H
                        have c30b0 : decide (0 ≤ a2) = false := decide_eq_false c30
                        clear c30
                        by_cases c40 : (Int.tmod x40_2 (wrap64 (t120 + 1))) < (wrap64 (t120 + 1))
                        ·rw [if_pos c40] at H
                         have c40b0 : decide ((Int.tmod x40_2 (wrap64 (t120 + 1))) < (wrap64 (t120 + 1))) = true := decide_eq_true c40
                         clear c40
                         obtain ⟨ji41, hji41⟩ : ∃ j_ : Int, (wrap64 ((wrap64 ((wrap64 ((wrap64 (Int.tdiv x40_2 (wrap64 (t120 + 1)))) + x16_3)) * (wrap64 (t120 + 1)))) + (Int.tmod x40_2 (wrap64 (t120 + 1))))) = j_ := ⟨_, rfl⟩
                         replace H : (if 0 ≤ (ji41) then (if (ji41) < (x11_3.length : Int) then ((spec_l1Least.f (wrap64 ((rd x11_3 (ji41)) + (rd x8_1 x40_2))) 1000000000001).bind fun t136 => (spec_soCounts.l2 kj26 a1 a2 (wrap64 (t120 + 1)) (rd l0 x31_1) (x11_3.set ((ji41) : Int).toNat t136) (rd x8_1 x40_2) (wrap64 (Int.tdiv x40_2 (wrap64 (t120 + 1)))) (Int.tmod x40_2 (wrap64 (t120 + 1))) (wrap64 (x16_3 + 1)) l0 (l0.length : Int) x31_1 x8_1 (x8_1.length : Int) x40_2)) else (none)) else (none)) = some r := by first | (rw [hji41] at H; exact H) | (simp only [hji41] at H ⊢; exact H)
                         have hji41w : (IntKind.i64.wrap ((wrap64 ((wrap64 ((wrap64 (Int.tdiv x40_2 (wrap64 (t120 + 1)))) + x16_3)) * (wrap64 (t120 + 1)))) + (Int.tmod x40_2 (wrap64 (t120 + 1))))) = ji41 := (i64_w _).trans hji41
                         by_cases c42 : 0 ≤ (ji41)
                         ·rw [if_pos c42] at H
                          have c42b0 : decide (0 ≤ (ji41)) = true := decide_eq_true c42
                          clear c42
                          by_cases c43 : (ji41) < (x11_3.length : Int)
                          ·rw [if_pos c43] at H
                           have c43b0 : decide ((ji41) < (x11_3.length : Int)) = true := decide_eq_true c43
                           clear c43
                           replace H := Option.bind_eq_some_iff.mp H
                           obtain ⟨t136, A440, H⟩ := H
                           replace H : (spec_soCounts.l2 kj26 a1 a2 (wrap64 (t120 + 1)) (rd l0 x31_1) (x11_3.set ((ji41) : Int).toNat t136) (rd x8_1 x40_2) (wrap64 (Int.tdiv x40_2 (wrap64 (t120 + 1)))) (Int.tmod x40_2 (wrap64 (t120 + 1))) (wrap64 (x16_3 + 1)) l0 (l0.length : Int) x31_1 x8_1 (x8_1.length : Int) x40_2) = some r := H
                           have A44 := Aside0.mk A440
                           clear A440
                           obtain ⟨y137, hy137⟩ : ∃ y_ : List Int, y_ = (x11_3.set ((ji41) : Int).toNat t136) := ⟨_, rfl⟩
                           replace H : (spec_soCounts.l2 kj26 a1 a2 (wrap64 (t120 + 1)) (rd l0 x31_1) y137 (rd x8_1 x40_2) (wrap64 (Int.tdiv x40_2 (wrap64 (t120 + 1)))) (Int.tmod x40_2 (wrap64 (t120 + 1))) (wrap64 (x16_3 + 1)) l0 (l0.length : Int) x31_1 x8_1 (x8_1.length : Int) x40_2) = some r := by first | (rw [hy137]; with_reducible exact H) | (have H2_ := (Option.bind_some _ _).symm.trans H; rw [hy137]; with_reducible exact H2_) | (have H2_ := (Option.bind_some _ _).symm.trans H; with_reducible exact H2_) | with_reducible exact H | (rw [hy137]; exact H) | exact H
                           have Ny137 := Aside0.mk hy137
                           clear hy137
                           have H' := Aside0.mk H
                           clear H
                           obtain ⟨Ao46, co46, eo46⟩ := Kd.R_slice HO_11.1
                           subst eo46
                           have p135 : 0 ≤ ((ji41) : Int) := of_decide_eq_true (by first | (with_reducible assumption) | assumption)
                           have q135 : (ji41) < (x11_3.length : Int) := of_decide_eq_true (by first | (with_reducible assumption) | assumption)
                           obtain ⟨ad135, e135, hx135_0⟩ := Kd.at_int (Kd.R_reads' HO_11.1).2.2 (ji41) p135 q135
                           cases e135
                           replace p135 := eq_true p135
                           replace q135 := eq_true q135
                           go_wp2_with (first | (go_at_call 38; (with_reducible refine (spec_l1Least.calls (wrap64 ((rd x11_3 (ji41)) + (rd x8_1 x40_2))) 1000000000001 t136 _ A44.1).mono ?_); rintro e w' ⟨rfl, ⟨nd, rfl⟩⟩; (try first | exact ⟨rfl, _, World.drewN_drewN _ _ _⟩ | exact ⟨rfl, _, Eq.trans (World.drewN_drewN _ _ _) (congrArg (World.drewN _) (Nat.add_assoc _ _ _))⟩); have p45 : 0 ≤ ((ji41) : Int) := of_decide_eq_true (by first | (with_reducible assumption) | assumption); have q45 : ((ji41) : Int) < ((x11_3.length : Int) : Int) := of_decide_eq_true (by first | (with_reducible assumption) | assumption); obtain ⟨go45, co45, eo45, gb45, gl45, cl45, HG45⟩ := Kd.R_form HO_11.1 (by omega); (first | cases eo45 | (injection eo45 with ea_ en_ ec_; (first | subst ea_ | (injection ea_ with ea_; subst ea_)); subst ec_; clear en_)); have GB45 := Aside0.mk gb45; have GG45 := Aside0.mk HG45; clear gb45 gl45 HG45; (first | simp only [add_plain] at hx135_0 | skip); obtain ⟨hx45_0, hf45_0⟩ := Kd.R_celln 0 HO_11.1 ((ji41) : Int) p45 q45; replace p45 := eq_true p45; replace q45 := eq_true q45; obtain ⟨hy47_, hz47_⟩ := Kd.R_celln 0 HO_11.1 ((ji41) : Int) (of_decide_eq_true (by first | (with_reducible assumption) | assumption)) (of_decide_eq_true (by first | (with_reducible assumption) | assumption)); have HP47 := Kd.R_putg HO_11.1 ((ji41) : Int) t136) | ((with_reducible refine gate_store (t := 3) (p := 91) rfl ?_); (try (rw [drewN_self wc]; generalize hq_ : World.drewN wc _ = wc; have n0_ := Aside0.mk (Kd.R_at hq_ HO_11.1); have n1_ := Aside0.mk (Kd.R_at hq_ HO_38.1); have n2_ := Aside0.mk (below_at hq_ HB.1); clear hq_ HO_11 HO_38 HB; have HO_11 := n0_; have HO_38 := n1_; have HB := n2_; clear n0_ n1_ n2_; (try (obtain ⟨hy47_, hz47_⟩ := Kd.R_celln 0 HO_11.1 ((ji41) : Int) (of_decide_eq_true (by first | (with_reducible assumption) | assumption)) (of_decide_eq_true (by first | (with_reducible assumption) | assumption)))); (try (have HP47 := Kd.R_putg HO_11.1 ((ji41) : Int) t136)))); refine store_event (t := 3) (p := 91) (v := ?vo_w48) (w1 := (wc.setCell ⟨go45, ((ji41) : Int).toNat, none⟩ (.int .i64 t136))) ?hg ?ho ?hn ?hr ?_; (case ho => rfl); (case hg => rfl); (case hn => rfl); (case hr => first | (go_simp; done) | (go_simp; rfl)); intro w48 hw; have hg : wc.grownBy w48 (some go45) := (by rw [hw]; exact HP47.2); have hp_ : Kd.R (Kd.int .i64) 3 w48 w.heap.size (fun k_ => some k_ ≠ (.slice (some ad131) x8_1.length co19 : Value).ownBlock) (.slice (some ⟨go45, 0, none⟩) x11_3.length co46) y137 := (by rw [hw, Ny137.1]; exact HP47.1); clear HP47; have n0_ := Aside0.mk (hp_); have n1_ := Aside0.mk (Kd.R_after (v := (.slice (some ⟨go45, 0, none⟩) x11_3.length co46)) (v1 := (.slice (some ⟨go45, 0, none⟩) x11_3.length co46)) (ok := (fun _ => True)) (by (with_reducible repeat (first | apply Kd.R_alloc | apply Kd.R_drewN | apply Kd.R_drew)); exact Kd.R_mono HO_38.1 (fun _ hk => ⟨trivial, hk⟩)) hg (.inl rfl)); have n2_ := Aside0.mk ((by rw [hw]; exact below_set (HB.1) GB45.1 : Below w.heap.size w w48)); clear HO_11; clear HO_38; clear HB; have HO_11 := n0_; have HO_38 := n1_; have HB := n2_; clear n0_ n1_ n2_; clear hg hw hp_))
                           repeat (go_quiet (first | (go_at_call 38; (with_reducible refine (spec_l1Least.calls (wrap64 ((rd x11_3 (ji41)) + (rd x8_1 x40_2))) 1000000000001 t136 _ A44.1).mono ?_); rintro e w' ⟨rfl, ⟨nd, rfl⟩⟩; (try first | exact ⟨rfl, _, World.drewN_drewN _ _ _⟩ | exact ⟨rfl, _, Eq.trans (World.drewN_drewN _ _ _) (congrArg (World.drewN _) (Nat.add_assoc _ _ _))⟩); have p45 : 0 ≤ ((ji41) : Int) := of_decide_eq_true (by first | (with_reducible assumption) | assumption); have q45 : ((ji41) : Int) < ((x11_3.length : Int) : Int) := of_decide_eq_true (by first | (with_reducible assumption) | assumption); obtain ⟨go45, co45, eo45, gb45, gl45, cl45, HG45⟩ := Kd.R_form HO_11.1 (by omega); (first | cases eo45 | (injection eo45 with ea_ en_ ec_; (first | subst ea_ | (injection ea_ with ea_; subst ea_)); subst ec_; clear en_)); have GB45 := Aside0.mk gb45; have GG45 := Aside0.mk HG45; clear gb45 gl45 HG45; (first | simp only [add_plain] at hx135_0 | skip); obtain ⟨hx45_0, hf45_0⟩ := Kd.R_celln 0 HO_11.1 ((ji41) : Int) p45 q45; replace p45 := eq_true p45; replace q45 := eq_true q45; obtain ⟨hy47_, hz47_⟩ := Kd.R_celln 0 HO_11.1 ((ji41) : Int) (of_decide_eq_true (by first | (with_reducible assumption) | assumption)) (of_decide_eq_true (by first | (with_reducible assumption) | assumption)); have HP47 := Kd.R_putg HO_11.1 ((ji41) : Int) t136) | ((with_reducible refine gate_store (t := 3) (p := 91) rfl ?_); (try (rw [drewN_self wc]; generalize hq_ : World.drewN wc _ = wc; have n0_ := Aside0.mk (Kd.R_at hq_ HO_11.1); have n1_ := Aside0.mk (Kd.R_at hq_ HO_38.1); have n2_ := Aside0.mk (below_at hq_ HB.1); clear hq_ HO_11 HO_38 HB; have HO_11 := n0_; have HO_38 := n1_; have HB := n2_; clear n0_ n1_ n2_; (try (obtain ⟨hy47_, hz47_⟩ := Kd.R_celln 0 HO_11.1 ((ji41) : Int) (of_decide_eq_true (by first | (with_reducible assumption) | assumption)) (of_decide_eq_true (by first | (with_reducible assumption) | assumption)))); (try (have HP47 := Kd.R_putg HO_11.1 ((ji41) : Int) t136)))); refine store_event (t := 3) (p := 91) (v := ?vo_w48) (w1 := (wc.setCell ⟨go45, ((ji41) : Int).toNat, none⟩ (.int .i64 t136))) ?hg ?ho ?hn ?hr ?_; (case ho => rfl); (case hg => rfl); (case hn => rfl); (case hr => first | (go_simp; done) | (go_simp; rfl)); intro w48 hw; have hg : wc.grownBy w48 (some go45) := (by rw [hw]; exact HP47.2); have hp_ : Kd.R (Kd.int .i64) 3 w48 w.heap.size (fun k_ => some k_ ≠ (.slice (some ad131) x8_1.length co19 : Value).ownBlock) (.slice (some ⟨go45, 0, none⟩) x11_3.length co46) y137 := (by rw [hw, Ny137.1]; exact HP47.1); clear HP47; have n0_ := Aside0.mk (hp_); have n1_ := Aside0.mk (Kd.R_after (v := (.slice (some ⟨go45, 0, none⟩) x11_3.length co46)) (v1 := (.slice (some ⟨go45, 0, none⟩) x11_3.length co46)) (ok := (fun _ => True)) (by (with_reducible repeat (first | apply Kd.R_alloc | apply Kd.R_drewN | apply Kd.R_drew)); exact Kd.R_mono HO_38.1 (fun _ hk => ⟨trivial, hk⟩)) hg (.inl rfl)); have n2_ := Aside0.mk ((by rw [hw]; exact below_set (HB.1) GB45.1 : Below w.heap.size w w48)); clear HO_11; clear HO_38; clear HB; have HO_11 := n0_; have HO_38 := n1_; have HB := n2_; clear n0_ n1_ n2_; clear hg hw hp_)); try go_wp2_with (first | (go_at_call 38; (with_reducible refine (spec_l1Least.calls (wrap64 ((rd x11_3 (ji41)) + (rd x8_1 x40_2))) 1000000000001 t136 _ A44.1).mono ?_); rintro e w' ⟨rfl, ⟨nd, rfl⟩⟩; (try first | exact ⟨rfl, _, World.drewN_drewN _ _ _⟩ | exact ⟨rfl, _, Eq.trans (World.drewN_drewN _ _ _) (congrArg (World.drewN _) (Nat.add_assoc _ _ _))⟩); have p45 : 0 ≤ ((ji41) : Int) := of_decide_eq_true (by first | (with_reducible assumption) | assumption); have q45 : ((ji41) : Int) < ((x11_3.length : Int) : Int) := of_decide_eq_true (by first | (with_reducible assumption) | assumption); obtain ⟨go45, co45, eo45, gb45, gl45, cl45, HG45⟩ := Kd.R_form HO_11.1 (by omega); (first | cases eo45 | (injection eo45 with ea_ en_ ec_; (first | subst ea_ | (injection ea_ with ea_; subst ea_)); subst ec_; clear en_)); have GB45 := Aside0.mk gb45; have GG45 := Aside0.mk HG45; clear gb45 gl45 HG45; (first | simp only [add_plain] at hx135_0 | skip); obtain ⟨hx45_0, hf45_0⟩ := Kd.R_celln 0 HO_11.1 ((ji41) : Int) p45 q45; replace p45 := eq_true p45; replace q45 := eq_true q45; obtain ⟨hy47_, hz47_⟩ := Kd.R_celln 0 HO_11.1 ((ji41) : Int) (of_decide_eq_true (by first | (with_reducible assumption) | assumption)) (of_decide_eq_true (by first | (with_reducible assumption) | assumption)); have HP47 := Kd.R_putg HO_11.1 ((ji41) : Int) t136) | ((with_reducible refine gate_store (t := 3) (p := 91) rfl ?_); (try (rw [drewN_self wc]; generalize hq_ : World.drewN wc _ = wc; have n0_ := Aside0.mk (Kd.R_at hq_ HO_11.1); have n1_ := Aside0.mk (Kd.R_at hq_ HO_38.1); have n2_ := Aside0.mk (below_at hq_ HB.1); clear hq_ HO_11 HO_38 HB; have HO_11 := n0_; have HO_38 := n1_; have HB := n2_; clear n0_ n1_ n2_; (try (obtain ⟨hy47_, hz47_⟩ := Kd.R_celln 0 HO_11.1 ((ji41) : Int) (of_decide_eq_true (by first | (with_reducible assumption) | assumption)) (of_decide_eq_true (by first | (with_reducible assumption) | assumption)))); (try (have HP47 := Kd.R_putg HO_11.1 ((ji41) : Int) t136)))); refine store_event (t := 3) (p := 91) (v := ?vo_w48) (w1 := (wc.setCell ⟨go45, ((ji41) : Int).toNat, none⟩ (.int .i64 t136))) ?hg ?ho ?hn ?hr ?_; (case ho => rfl); (case hg => rfl); (case hn => rfl); (case hr => first | (go_simp; done) | (go_simp; rfl)); intro w48 hw; have hg : wc.grownBy w48 (some go45) := (by rw [hw]; exact HP47.2); have hp_ : Kd.R (Kd.int .i64) 3 w48 w.heap.size (fun k_ => some k_ ≠ (.slice (some ad131) x8_1.length co19 : Value).ownBlock) (.slice (some ⟨go45, 0, none⟩) x11_3.length co46) y137 := (by rw [hw, Ny137.1]; exact HP47.1); clear HP47; have n0_ := Aside0.mk (hp_); have n1_ := Aside0.mk (Kd.R_after (v := (.slice (some ⟨go45, 0, none⟩) x11_3.length co46)) (v1 := (.slice (some ⟨go45, 0, none⟩) x11_3.length co46)) (ok := (fun _ => True)) (by (with_reducible repeat (first | apply Kd.R_alloc | apply Kd.R_drewN | apply Kd.R_drew)); exact Kd.R_mono HO_38.1 (fun _ hk => ⟨trivial, hk⟩)) hg (.inl rfl)); have n2_ := Aside0.mk ((by rw [hw]; exact below_set (HB.1) GB45.1 : Below w.heap.size w w48)); clear HO_11; clear HO_38; clear HB; have HO_11 := n0_; have HO_38 := n1_; have HB := n2_; clear n0_ n1_ n2_; clear hg hw hp_)))
                           go_roundg kj26
                           case measure => have := HK1.1; have := HK2.1; have := HK3.1; have := HJ26.1; omega
                           case rel => exact ⟨(y137), (wrap64 (x16_3 + 1)), (by first | rfl | (simp; done) | (simp [*]; done) | (simp [Go.IntWalk.i64_left]; done)), H', ⟨by have := HK1.1; have := HK2.1; have := HK3.1; have := HJ26.1; omega⟩, ⟨by (with_reducible repeat (first | apply Kd.R_alloc | apply Kd.R_drewN | apply Kd.R_drew)); exact HO_11.1⟩, ⟨by (with_reducible repeat (first | apply Kd.R_alloc | apply Kd.R_drewN | apply Kd.R_drew)); exact Kd.R_mono HO_38.1 (fun _ hk => hk.2)⟩, ⟨by repeat (first | (with_reducible first | exact HB.1 | apply below_alloc | apply pw_below_drewN | apply below_drew1) | exact HB.1)⟩⟩
                          ·rw [if_neg c43] at H
                           exact absurd H (by simp)
                         ·rw [if_neg c42] at H
                          exact absurd H (by simp)
                        ·rw [if_neg c40] at H
                         have c40b0 : decide ((Int.tmod x40_2 (wrap64 (t120 + 1))) < (wrap64 (t120 + 1))) = false := decide_eq_false c40
                         clear c40
                         have H' := Aside0.mk H
                         clear H
                         go_wp2
                         repeat (go_quiet (fail); try go_wp2)
                         go_roundg kj26
                         case measure => have := HK1.1; have := HK2.1; have := HK3.1; have := HJ26.1; omega
                         case rel => exact ⟨(x11_3), (wrap64 (x16_3 + 1)), (by first | rfl | (simp; done) | (simp [*]; done) | (simp [Go.IntWalk.i64_left]; done)), H', ⟨by have := HK1.1; have := HK2.1; have := HK3.1; have := HJ26.1; omega⟩, ⟨by (with_reducible repeat (first | apply Kd.R_alloc | apply Kd.R_drewN | apply Kd.R_drew)); exact HO_11.1⟩, ⟨by (with_reducible repeat (first | apply Kd.R_alloc | apply Kd.R_drewN | apply Kd.R_drew)); exact HO_38.1⟩, ⟨by repeat (first | (with_reducible first | exact HB.1 | apply below_alloc | apply pw_below_drewN | apply below_drew1) | exact HB.1)⟩⟩
                      ·replace c29 := Bool.eq_false_iff.mpr c29
                       subst c29
                       have H1 : (spec_soCounts.l1 kj26 a1 a2 (wrap64 (t120 + 1)) (rd l0 x31_1) x11_3 l0 (l0.length : Int) x31_1 x8_1 (x8_1.length : Int) (wrap64 (x40_2 + 1))) = some r := by rw [if_neg (show ¬ (false = true) by decide)] at H; exact H
                       clear H
                       have H := H1
                       clear H1
                       have H' := Aside0.mk H
                       clear H
                       go_wp2
                       repeat (go_quiet (fail); try go_wp2)
                       go_roundg kj26
                       case measure => have := HK1.1; have := HK2.1; have := HK3.1; have := HJ26.1; omega
                       case rel => exact ⟨(x11_3), (wrap64 (x40_2 + 1)), (by first | rfl | (simp; done) | (simp [*]; done) | (simp [Go.IntWalk.i64_left]; done)), H', ⟨by have := HK1.1; have := HK2.1; have := HK3.1; have := HJ26.1; omega⟩, ⟨by (with_reducible repeat (first | apply Kd.R_alloc | apply Kd.R_drewN | apply Kd.R_drew)); exact HO_11.1⟩, ⟨by (with_reducible repeat (first | apply Kd.R_alloc | apply Kd.R_drewN | apply Kd.R_drew)); exact HO_38.1⟩, ⟨by repeat (first | (with_reducible first | exact HB.1 | apply below_alloc | apply pw_below_drewN | apply below_drew1) | exact HB.1)⟩⟩
               ·rw [if_neg c24] at H
                exact absurd H (by simp)
              ·rw [if_neg c23] at H
               exact absurd H (by simp)
             ·rw [if_neg c22] at H
              have c22b0 : decide (x40_2 < (x8_1.length : Int)) = false := decide_eq_false c22
              clear c22
              have H' := Aside0.mk H
              clear H
              go_wp2
              repeat (go_quiet (fail); try go_wp2)
              go_roundg k2
              case measure => have := HK1.1; have := HK2.1; omega
              case rel => exact ⟨(x11_2), (wrap64 (x31_1 + 1)), (by first | rfl | (simp; done) | (simp [*]; done) | (simp [Go.IntWalk.i64_left]; done)), H', ⟨by have := HK1.1; have := HK2.1; omega⟩, ⟨by (with_reducible repeat (first | apply Kd.R_alloc | apply Kd.R_drewN | apply Kd.R_drew)); exact Kd.R_mono HO_11.1 (fun _ hk => trivial)⟩, ⟨by repeat (first | (with_reducible first | exact HB.1 | apply below_alloc | apply pw_below_drewN | apply below_drew1) | exact HB.1)⟩⟩
          ·rw [if_neg c18] at H
           exact absurd H (by simp)
         ·rw [if_neg c17] at H
          exact absurd H (by simp)
        ·rw [if_neg c16] at H
         exact absurd H (by simp)
       ·rw [if_neg c15] at H
        exact absurd H (by simp)
      ·rw [if_neg c14] at H
       have c14b0 : decide (x31_1 < (l0.length : Int)) = false := decide_eq_false c14
       clear c14
       replace H := Option.bind_eq_some_iff.mp H
       obtain ⟨t125, A490, H⟩ := H
       replace H : (if 0 ≤ (wrap64 ((wrap64 (a1 * (wrap64 (t120 + 1)))) + t125)) then (if (wrap64 ((wrap64 (a1 * (wrap64 (t120 + 1)))) + t125)) < (x8_1.length : Int) then (some (rd x8_1 (wrap64 ((wrap64 (a1 * (wrap64 (t120 + 1)))) + t125)))) else (none)) else (none)) = some r := H
       have A49 := Aside0.mk A490
       clear A490
       obtain ⟨ji50, hji50⟩ : ∃ j_ : Int, (wrap64 ((wrap64 (a1 * (wrap64 (t120 + 1)))) + t125)) = j_ := ⟨_, rfl⟩
       replace H : (if 0 ≤ (ji50) then (if (ji50) < (x8_1.length : Int) then (some (rd x8_1 (ji50))) else (none)) else (none)) = some r := by first | (rw [hji50] at H; exact H) | (simp only [hji50] at H ⊢; exact H)
       (try rw [hji50] at A49)
       have hji50w : (IntKind.i64.wrap ((wrap64 (a1 * (wrap64 (t120 + 1)))) + t125)) = ji50 := (i64_w _).trans hji50
       by_cases c51 : 0 ≤ (ji50)
       ·rw [if_pos c51] at H
        have c51b0 : decide (0 ≤ (ji50)) = true := decide_eq_true c51
        clear c51
        by_cases c52 : (ji50) < (x8_1.length : Int)
        ·rw [if_pos c52] at H
         have c52b0 : decide ((ji50) < (x8_1.length : Int)) = true := decide_eq_true c52
         clear c52
         obtain rfl := Option.some.inj H
         go_wp2_with (first | (go_at_call 37; (with_reducible refine (spec_l1Most.calls a2 0 t125 _ A49.1).mono ?_); rintro e w' ⟨rfl, ⟨nd, rfl⟩⟩; (try first | exact ⟨rfl, _, World.drewN_drewN _ _ _⟩ | exact ⟨rfl, _, Eq.trans (World.drewN_drewN _ _ _) (congrArg (World.drewN _) (Nat.add_assoc _ _ _))⟩); obtain ⟨Ao53, co53, eo53⟩ := Kd.R_slice HO_8.1; subst eo53; have p126 : 0 ≤ ((ji50) : Int) := of_decide_eq_true (by first | (with_reducible assumption) | assumption); have q126 : (ji50) < (x8_1.length : Int) := of_decide_eq_true (by first | (with_reducible assumption) | assumption); obtain ⟨ad126, e126, hx126_0⟩ := Kd.at_int (Kd.R_reads' HO_8.1).2.2 (ji50) p126 q126; cases e126; replace p126 := eq_true p126; replace q126 := eq_true q126))
         repeat (go_quiet (first | (go_at_call 37; (with_reducible refine (spec_l1Most.calls a2 0 t125 _ A49.1).mono ?_); rintro e w' ⟨rfl, ⟨nd, rfl⟩⟩; (try first | exact ⟨rfl, _, World.drewN_drewN _ _ _⟩ | exact ⟨rfl, _, Eq.trans (World.drewN_drewN _ _ _) (congrArg (World.drewN _) (Nat.add_assoc _ _ _))⟩); obtain ⟨Ao53, co53, eo53⟩ := Kd.R_slice HO_8.1; subst eo53; have p126 : 0 ≤ ((ji50) : Int) := of_decide_eq_true (by first | (with_reducible assumption) | assumption); have q126 : (ji50) < (x8_1.length : Int) := of_decide_eq_true (by first | (with_reducible assumption) | assumption); obtain ⟨ad126, e126, hx126_0⟩ := Kd.at_int (Kd.R_reads' HO_8.1).2.2 (ji50) p126 q126; cases e126; replace p126 := eq_true p126; replace q126 := eq_true q126)); try go_wp2_with (first | (go_at_call 37; (with_reducible refine (spec_l1Most.calls a2 0 t125 _ A49.1).mono ?_); rintro e w' ⟨rfl, ⟨nd, rfl⟩⟩; (try first | exact ⟨rfl, _, World.drewN_drewN _ _ _⟩ | exact ⟨rfl, _, Eq.trans (World.drewN_drewN _ _ _) (congrArg (World.drewN _) (Nat.add_assoc _ _ _))⟩); obtain ⟨Ao53, co53, eo53⟩ := Kd.R_slice HO_8.1; subst eo53; have p126 : 0 ≤ ((ji50) : Int) := of_decide_eq_true (by first | (with_reducible assumption) | assumption); have q126 : (ji50) < (x8_1.length : Int) := of_decide_eq_true (by first | (with_reducible assumption) | assumption); obtain ⟨ad126, e126, hx126_0⟩ := Kd.at_int (Kd.R_reads' HO_8.1).2.2 (ji50) p126 q126; cases e126; replace p126 := eq_true p126; replace q126 := eq_true q126)))
         go_ret
         exact ⟨by first | rfl | (simp [errW_none, errW_some] <;> rfl) | (simp only [← hji5, ← hji50]; first | rfl | (simp [errW_none, errW_some] <;> rfl)) | (simp [Go.IntWalk.i64_left]; done) | (simp [*, errW_none, errW_some] <;> rfl), by repeat (first | (with_reducible first | exact HB.1 | apply below_alloc | apply pw_below_drewN | apply below_drew1) | exact HB.1)⟩
        ·rw [if_neg c52] at H
         exact absurd H (by simp)
       ·rw [if_neg c51] at H
        exact absurd H (by simp)
   ·rw [if_neg c8] at H
    exact absurd H (by simp)
  ·rw [if_neg c7] at H
   exact absurd H (by simp)
 ·rw [if_neg c6] at H
  exact absurd H (by simp)

/-! ### spec_soDraws: function 24 -/
def spec_soDraws.f (k : Nat) (l0 : List Int) (a1 : Int) : Option (Int) := (spec_soSum.f k l0).bind fun t138 => (if a1 > t138 then (some 0) else ((spec_soCounts.f k l0 a1 (-1)).bind fun t139 => (some t139)))
theorem spec_soDraws.mono : ∀ a0 a1 k, LeO (spec_soDraws.f k a0 a1) (spec_soDraws.f (k + 1) a0 a1) := by
 intro a0 a1 k
 unfold spec_soDraws.f
 repeat' first
   | (with_reducible exact spec_soCounts.mono _ _ _ _)
   | (with_reducible exact spec_soSum.mono _ _)
   | (with_reducible exact LeO.refl _)
   | (with_reducible exact LeO.none _)
   | (with_reducible refine LeO.ite ?_ ?_)
   | (with_reducible refine LeO.bind ?_ (fun _ => ?_))
   | exact spec_soCounts.mono _ _ _ _
   | exact spec_soSum.mono _ _
   | exact LeO.none _
   | refine LeO.ite ?_ ?_
   | refine LeO.bind ?_ (fun _ => ?_)
set_option maxHeartbeats 8000000 in
set_option maxRecDepth 100000 in
theorem spec_soDraws.calls (k : Nat) (A0 : Option Addr) (c0 : Nat) (l0 : List Int) (a1 : Int) (r : Int) (w : World) (hr0 : Kd.C (Kd.int .i64) w A0 l0.length l0) (hc0 : l0.length ≤ c0) (h : spec_soDraws.f k l0 a1 = some r) :
  Calls Try.prog 24 #[.slice A0 l0.length c0, .int .i64 a1] w fun e w' => e = .returned (.int .i64 r) ∧ Below w.heap.size w w' := by
 have HR0 := Aside0.mk hr0
 have HC0 := Aside0.mk hc0
 clear hr0 hc0
 have HB := Aside0.mk (Below.refl w.heap.size w)
 have H : ((spec_soSum.f k l0).bind fun t138 => (if a1 > t138 then (some 0) else ((spec_soCounts.f k l0 a1 (-1)).bind fun t139 => (some t139)))) = some r := h
 clear h
 replace H := Option.bind_eq_some_iff.mp H
 obtain ⟨t138, A30, H⟩ := H
 replace H : (if a1 > t138 then (some 0) else ((spec_soCounts.f k l0 a1 (-1)).bind fun t139 => (some t139))) = some r := H
 have A3 := Aside0.mk A30
 clear A30
 by_cases c4 : a1 > t138
 ·rw [if_pos c4] at H
  have c4b0 : decide (t138 < a1) = true := decide_eq_true c4
  clear c4
  obtain rfl := Option.some.inj H
  go_enter Try.func24, Try.ntmps24
  go_wp2_with (first | ((with_reducible refine gate_callee (f := 26) rfl ?_); refine goesL_ (some 7) rfl rfl Try.func26 (by kernel_rfl) rfl #[.slice A0 l0.length c0] rfl (by (try simp only [List.map_toArray, List.map_cons, List.map_nil]); first | done | rfl | (simp only [List.length_drop, List.length_take]; rfl)) ?_; (with_reducible refine (spec_soSum.calls k _ _ l0 t138 _ ?side1 ?side2 A3.1).mono ?_); (case side1 => repeat (first | exact HR0.1 | (with_reducible refine Kd.C_alloc ?_ _) | (with_reducible refine Kd.C_drewN ?_ _) | (with_reducible refine Kd.C_drew ?_))); (case side2 => exact HC0.1); rintro e w' ⟨rfl, ⟨nd, rfl⟩⟩; refine ⟨_, rfl, ?_⟩))
  go_ret
  exact ⟨by first | rfl | (simp [errW_none, errW_some] <;> rfl) | (simp [Go.IntWalk.i64_left]; done) | (simp [*, errW_none, errW_some] <;> rfl), by repeat (first | (with_reducible first | exact HB.1 | apply below_alloc | apply pw_below_drewN | apply below_drew1) | exact HB.1)⟩
 ·rw [if_neg c4] at H
  have c4b0 : decide (t138 < a1) = false := decide_eq_false c4
  clear c4
  replace H := Option.bind_eq_some_iff.mp H
  obtain ⟨t139, A50, H⟩ := H
  replace H : (some t139) = some r := H
  have A5 := Aside0.mk A50
  clear A50
  obtain rfl := Option.some.inj H
  go_enter Try.func24, Try.ntmps24
  go_wp2_with (first | ((with_reducible refine gate_callee (f := 26) rfl ?_); refine goesL_ (some 7) rfl rfl Try.func26 (by kernel_rfl) rfl #[.slice A0 l0.length c0] rfl (by (try simp only [List.map_toArray, List.map_cons, List.map_nil]); first | done | rfl | (simp only [List.length_drop, List.length_take]; rfl)) ?_; (with_reducible refine (spec_soSum.calls k _ _ l0 t138 _ ?side1 ?side2 A3.1).mono ?_); (case side1 => repeat (first | exact HR0.1 | (with_reducible refine Kd.C_alloc ?_ _) | (with_reducible refine Kd.C_drewN ?_ _) | (with_reducible refine Kd.C_drew ?_))); (case side2 => exact HC0.1); rintro e w' ⟨rfl, ⟨nd, rfl⟩⟩; refine ⟨_, rfl, ?_⟩) | ((with_reducible refine gate_callee (f := 28) rfl ?_); refine goesL_ (some 11) rfl rfl Try.func28 (by kernel_rfl) rfl #[.slice A0 l0.length c0, .int .i64 a1, .int .i64 (-1)] rfl (by (try simp only [List.map_toArray, List.map_cons, List.map_nil]); first | done | rfl | (simp only [List.length_drop, List.length_take]; rfl)) ?_; (with_reducible refine (spec_soCounts.calls k _ _ l0 a1 (-1) t139 _ ?side1 ?side2 A5.1).mono ?_); (case side1 => repeat (first | exact HR0.1 | (with_reducible refine Kd.C_alloc ?_ _) | (with_reducible refine Kd.C_drewN ?_ _) | (with_reducible refine Kd.C_drew ?_))); (case side2 => exact HC0.1); rintro e w6 ⟨rfl, hb⟩; refine ⟨_, rfl, ?_⟩; have n0_ := Aside0.mk (below_step (by repeat (first | (with_reducible first | exact HB.1 | apply below_alloc | apply pw_below_drewN | apply below_drew1) | exact HB.1)) hb); clear HB; have HB := n0_; clear n0_; (try clear hb); (try clear hb2); (try clear hk); (try clear hi)))
  go_ret
  exact ⟨by first | rfl | (simp [errW_none, errW_some] <;> rfl) | (simp [Go.IntWalk.i64_left]; done) | (simp [*, errW_none, errW_some] <;> rfl), by repeat (first | (with_reducible first | exact HB.1 | apply below_alloc | apply pw_below_drewN | apply below_drew1) | exact HB.1)⟩

end Go.Proofs.Ythcpjncbedpkdaa.P
