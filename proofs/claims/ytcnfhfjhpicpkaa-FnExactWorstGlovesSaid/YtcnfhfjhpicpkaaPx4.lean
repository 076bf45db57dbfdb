-- written for this claim by the session's own program (wip/xprint)
import Derived.Test.YtcnfhfjhpicpkaaPx0
import Derived.Test.YtcnfhfjhpicpkaaPx1
import Derived.Test.YtcnfhfjhpicpkaaPx2
namespace Go.Proofs.Ytcnfhfjhpicpkaa.P
open Go.RowKit Go.Proofs.YtcnfhfjhpicpkaaW.PrintWords Go.Proofs.YtcnfhfjhpicpkaaW.PrintLast Go.Proofs.YtcnfhfjhpicpkaaW.PrintMore
attribute [local go_sem] max2_int min2_int max_two min_two max_three min_three max_four min_four   -- for this text's walks alone
set_option linter.unusedVariables false
set_option linter.unusedSimpArgs false

/-! ### spec_l1Least: function 76 -/
def spec_l1Least.f (a0 : Int) (a1 : Int) : Option (Int) := if a0 < a1 then (some a0) else (some a1)
set_option maxHeartbeats 8000000 in
set_option maxRecDepth 100000 in
theorem spec_l1Least.calls (a0 : Int) (a1 : Int) (r : Int) (w : World) (h : spec_l1Least.f a0 a1 = some r) :
  Calls Try.prog 76 #[.int .i64 a0, .int .i64 a1] w fun e w' => e = .returned (.int .i64 r) ∧ Drawn0 w w' := by
 have H : (if a0 < a1 then (some a0) else (some a1)) = some r := h
 clear h
 by_cases c3 : a0 < a1
 ·rw [if_pos c3] at H
  have c3b0 : decide (a0 < a1) = true := decide_eq_true c3
  clear c3
  obtain rfl := Option.some.inj H
  go_enter Try.func76, Try.ntmps76
  go_wp2
  go_ret
  exact ⟨by first | rfl | (simp; done) | (simp [*]; done) | (simp [Go.IntWalk.i64_left]; done), by repeat (first | exact Drawn0.refl _ | apply Drawn0.step)⟩
 ·rw [if_neg c3] at H
  have c3b0 : decide (a0 < a1) = false := decide_eq_false c3
  clear c3
  obtain rfl := Option.some.inj H
  go_enter Try.func76, Try.ntmps76
  go_wp2
  go_ret
  exact ⟨by first | rfl | (simp; done) | (simp [*]; done) | (simp [Go.IntWalk.i64_left]; done), by repeat (first | exact Drawn0.refl _ | apply Drawn0.step)⟩

/-! ### spec_WorstGloves: function 42 -/
mutual
def spec_WorstGloves.j0 : Nat → Int → Bool → List Int → List Int → Option (List Int × List Int × Bool)
 | 0, _, _, _, _ => none
 | k + 1, x1, x18, x271000, x271001 => if x18 = true then (some (([] : List Int), ([] : List Int), false)) else (spec_WorstGloves.l0 k (wrap64 (x1 - 1)) x271000 (x271000.length : Int) 0 x271000 x271001 ([] : List Int) ([] : List Int))
def spec_WorstGloves.l0 : Nat → Int → List Int → Int → Int → List Int → List Int → List Int → List Int → Option (List Int × List Int × Bool)
 | 0, _, _, _, _, _, _, _, _ => none
 | k + 1, x7, x23, x24, x25, x271000, x271001, x274000, x274001 => if x25 < x24 then (if 0 ≤ x25 then (if x25 < (x23.length : Int) then (if x25 < (x271001.length : Int) then ((spec_l1Least.f (rd x23 x25) (rd x271001 x25)).bind fun t276 => ((spec_l1Least.f x7 t276).bind fun t277 => (if (rd x23 x25) ≥ (rd x271001 x25) then (if x274000.length < 17592186044416 then (if x274001.length < 17592186044416 then (spec_WorstGloves.l0 k (wrap64 (x7 - t277)) x23 x24 (wrap64 (x25 + 1)) x271000 x271001 (x274000 ++ [rd x23 x25]) (x274001 ++ [t277])) else (none)) else (none)) else (if x274000.length < 17592186044416 then (if x274001.length < 17592186044416 then (spec_WorstGloves.l0 k (wrap64 (x7 - t277)) x23 x24 (wrap64 (x25 + 1)) x271000 x271001 (x274000 ++ [t277]) (x274001 ++ [rd x271001 x25])) else (none)) else (none))))) else (none)) else (none)) else (none)) else (some (x274000, x274001, true))
end
def spec_WorstGloves.f (k : Nat) (l0_0 : List Int) (l0_1 : List Int) (a1 : Int) : Option (List Int × List Int × Bool) := (spec_gvGood.f k l0_0 l0_1).bind fun t272 => (if t272 = true then (spec_WorstGloves.j0 k a1 (decide (a1 < 1)) l0_0 l0_1) else (spec_WorstGloves.j0 k a1 true l0_0 l0_1))
theorem spec_WorstGloves.mono_l : ∀ k, (∀ y0 y1 y2 y3, LeO (spec_WorstGloves.j0 k y0 y1 y2 y3) (spec_WorstGloves.j0 (k + 1) y0 y1 y2 y3)) ∧ (∀ y0 y1 y2 y3 y4 y5 y6 y7, LeO (spec_WorstGloves.l0 k y0 y1 y2 y3 y4 y5 y6 y7) (spec_WorstGloves.l0 (k + 1) y0 y1 y2 y3 y4 y5 y6 y7))
 | 0 => ⟨fun _ _ _ _ r h => by simp [spec_WorstGloves.j0] at h, fun _ _ _ _ _ _ _ _ r h => by simp [spec_WorstGloves.l0] at h⟩
 | k + 1 => by
  obtain ⟨ih0, ih1⟩ := spec_WorstGloves.mono_l k
  refine ⟨?_, ?_⟩
  ·intro y0 y1 y2 y3
   unfold spec_WorstGloves.j0
   repeat' first
   | (with_reducible exact ih0 _ _ _ _)
   | (with_reducible exact ih1 _ _ _ _ _ _ _ _)
   | (with_reducible exact spec_gvGood.mono _ _ _)
   | (with_reducible exact LeO.refl _)
   | (with_reducible exact LeO.none _)
   | (with_reducible refine LeO.ite ?_ ?_)
   | (with_reducible refine LeO.bind ?_ (fun _ => ?_))
   | exact ih0 _ _ _ _
   | exact ih1 _ _ _ _ _ _ _ _
   | exact spec_gvGood.mono _ _ _
   | exact LeO.none _
   | refine LeO.ite ?_ ?_
   | refine LeO.bind ?_ (fun _ => ?_)
  ·intro y0 y1 y2 y3 y4 y5 y6 y7
   unfold spec_WorstGloves.l0
   repeat' first
   | (with_reducible exact ih0 _ _ _ _)
   | (with_reducible exact ih1 _ _ _ _ _ _ _ _)
   | (with_reducible exact spec_gvGood.mono _ _ _)
   | (with_reducible exact LeO.refl _)
   | (with_reducible exact LeO.none _)
   | (with_reducible refine LeO.ite ?_ ?_)
   | (with_reducible refine LeO.bind ?_ (fun _ => ?_))
   | exact ih0 _ _ _ _
   | exact ih1 _ _ _ _ _ _ _ _
   | exact spec_gvGood.mono _ _ _
   | exact LeO.none _
   | refine LeO.ite ?_ ?_
   | refine LeO.bind ?_ (fun _ => ?_)
theorem spec_WorstGloves.mono : ∀ a0 a1 a2 k, LeO (spec_WorstGloves.f k a0 a1 a2) (spec_WorstGloves.f (k + 1) a0 a1 a2) := by
 intro a0 a1 a2 k
 obtain ⟨ih0, ih1⟩ := spec_WorstGloves.mono_l k
 unfold spec_WorstGloves.f
 repeat' first
   | (with_reducible exact ih0 _ _ _ _)
   | (with_reducible exact ih1 _ _ _ _ _ _ _ _)
   | (with_reducible exact spec_gvGood.mono _ _ _)
   | (with_reducible exact LeO.refl _)
   | (with_reducible exact LeO.none _)
   | (with_reducible refine LeO.ite ?_ ?_)
   | (with_reducible refine LeO.bind ?_ (fun _ => ?_))
   | exact ih0 _ _ _ _
   | exact ih1 _ _ _ _ _ _ _ _
   | exact spec_gvGood.mono _ _ _
   | exact LeO.none _
   | refine LeO.ite ?_ ?_
   | refine LeO.bind ?_ (fun _ => ?_)
set_option maxHeartbeats 8000000 in
set_option maxRecDepth 100000 in
theorem spec_WorstGloves.calls (k : Nat) (A0_0 : Option Addr) (c0_0 : Nat) (l0_0 : List Int) (A0_1 : Option Addr) (c0_1 : Nat) (l0_1 : List Int) (a1 : Int) (r1 : List Int) (r2 : List Int) (r3 : Bool) (w : World) (hr0_0 : Kd.C (Kd.int .i64) w A0_0 l0_0.length l0_0) (hc0_0 : l0_0.length ≤ c0_0) (hr0_1 : Kd.C (Kd.int .i64) w A0_1 l0_1.length l0_1) (hc0_1 : l0_1.length ≤ c0_1) (h : spec_WorstGloves.f k l0_0 l0_1 a1 = some (r1, r2, r3)) :
  Calls Try.prog 42 #[.agg #[.slice A0_0 l0_0.length c0_0, .slice A0_1 l0_1.length c0_1], .int .i64 a1] w fun e w' => ∃ v0_ v1_ : Value, e = .returned (.tuple #[.agg #[v0_, v1_], .bool r3]) ∧ Kd.R (Kd.int .i64) 3 w' w.heap.size (fun k_ => some k_ ≠ (v1_ : Value).ownBlock) v0_ r1 ∧ Kd.R (Kd.int .i64) 3 w' w.heap.size (fun k_ => some k_ ≠ (v0_ : Value).ownBlock) v1_ r2 ∧ Below w.heap.size w w' := by
 have hu28 := Try.underlying28
 have HR0_0 := Aside0.mk hr0_0
 have HC0_0 := Aside0.mk hc0_0
 clear hr0_0 hc0_0
 have HR0_1 := Aside0.mk hr0_1
 have HC0_1 := Aside0.mk hc0_1
 clear hr0_1 hc0_1
 have HB := Aside0.mk (Below.refl w.heap.size w)
 have H : ((spec_gvGood.f k l0_0 l0_1).bind fun t272 => (if t272 = true then (spec_WorstGloves.j0 k a1 (decide (a1 < 1)) l0_0 l0_1) else (spec_WorstGloves.j0 k a1 true l0_0 l0_1))) = some (r1, r2, r3) := h
 clear h
 have HC3 := Aside0.mk H
 clear H
 go_enter Try.func42, Try.ntmps42
 go_upto_region 1 with (first | ((with_reducible refine gate_dst (N := 2) rfl ?_); refine box_event ?hg (N := 2) ?hd (cs := #[.slice A0_0 l0_0.length c0_0, .slice A0_1 l0_1.length c0_1]) (t := 28) ?hr ?_; (case hd => rfl); (case hg => rfl); (case hr => first | (go_simp; done) | (go_simp; rfl)); intro gb270 hg w4 hbox hb; have n0_ := Aside0.mk (below_step (by repeat (first | (with_reducible first | exact HB.1 | apply below_alloc | apply pw_below_drewN | apply below_drew1) | exact HB.1)) hb); have n1_ := Aside0.mk (hbox); have n2_ := Aside0.mk ((by rw [hg]; exact (below_size (by repeat (first | (with_reducible first | exact HB.1 | apply below_alloc | apply pw_below_drewN | apply below_drew1) | exact HB.1))) : w.heap.size ≤ gb270)); have n3_ := Aside0.mk ((by rw [hg]; exact (below_size (by repeat (first | (with_reducible first | exact HB.1 | apply below_alloc | apply pw_below_drewN | apply below_drew1) | exact HB.1))) : w.heap.size ≤ gb270)); clear HB; have HB := n0_; have BK270 := n1_; have GW270 := n2_; have GE270 := n3_; clear n0_ n1_ n2_ n3_; clear hb hbox hg) | ((with_reducible refine gate_dst (N := 4) rfl ?_); refine box_event ?hg (N := 4) ?hd (cs := #[.slice none 0 0, .slice none 0 0]) (t := 28) ?hr ?_; (case hd => rfl); (case hg => rfl); (case hr => first | (go_simp; done) | (go_simp; rfl)); intro gb271 hg w5 hbox hb; have n0_ := Aside0.mk (blk_below (g := gb270) (o := .cells #[.slice A0_0 l0_0.length c0_0, .slice A0_1 l0_1.length c0_1] 28 (0, 0)) (by (with_reducible repeat (first | refine blk_drewN ?_ _ | refine blk_drew ?_ | refine blk_alloc ?_ _)); exact BK270.1) hb); have n1_ := Aside0.mk (below_step (by repeat (first | (with_reducible first | exact HB.1 | apply below_alloc | apply pw_below_drewN | apply below_drew1 | refine below_set ?_ GE270.1) | exact HB.1)) hb); have n2_ := Aside0.mk (hbox); have n3_ := Aside0.mk ((by rw [hg]; exact (below_size (by repeat (first | (with_reducible first | exact HB.1 | apply below_alloc | apply pw_below_drewN | apply below_drew1 | refine below_set ?_ GE270.1) | exact HB.1))) : w.heap.size ≤ gb271)); have n4_ := Aside0.mk ((by rw [hg]; exact (below_size (by repeat (first | (with_reducible first | exact HB.1 | apply below_alloc | apply pw_below_drewN | apply below_drew1 | refine below_set ?_ GE270.1) | exact HB.1))) : w.heap.size ≤ gb271)); have n5_ := Aside0.mk ((by rw [hg]; exact Nat.ne_of_lt (blk_lt (g := gb270) (o := .cells #[.slice A0_0 l0_0.length c0_0, .slice A0_1 l0_1.length c0_1] 28 (0, 0)) (by (with_reducible repeat (first | refine blk_drewN ?_ _ | refine blk_drew ?_ | refine blk_alloc ?_ _)); exact BK270.1)) : gb270 ≠ gb271)); have n6_ := Aside0.mk ((by rw [hg]; exact Nat.ne_of_gt (blk_lt (g := gb270) (o := .cells #[.slice A0_0 l0_0.length c0_0, .slice A0_1 l0_1.length c0_1] 28 (0, 0)) (by (with_reducible repeat (first | refine blk_drewN ?_ _ | refine blk_drew ?_ | refine blk_alloc ?_ _)); exact BK270.1)) : gb271 ≠ gb270)); clear BK270; clear HB; have BK270 := n0_; have HB := n1_; have BK271 := n2_; have GW271 := n3_; have GE271 := n4_; have NB270_271 := n5_; have NB271_270 := n6_; clear n0_ n1_ n2_ n3_ n4_ n5_ n6_; clear hb hbox hg))
 (try simp only [Act.put, List.setIfInBounds_toArray, List.set_cons_zero, List.set_cons_succ])
 go_cut [18] (fun v18 wc => ∃ (kq : Nat) (x18_2 : Bool), v18 = .bool x18_2 ∧ Aside0 (spec_WorstGloves.j0 kq a1 x18_2 l0_0 l0_1 = some (r1, r2, r3)) ∧ Aside0 (kq ≤ k) ∧ Aside0 (wc.heap[gb270]? = some (.cells #[(.slice A0_0 l0_0.length c0_0), (.slice A0_1 l0_1.length c0_1)] 28 (0, 0))) ∧ Aside0 (wc.heap[gb271]? = some (.cells #[(.slice none 0 0), (.slice none 0 0)] 28 (0, 0))) ∧ Aside0 (Below w.heap.size w wc))
 case first =>
  have H := HC3.1
  clear HC3
  replace H := Option.bind_eq_some_iff.mp H
  obtain ⟨t272, A60, H⟩ := H
  replace H : (if t272 = true then (spec_WorstGloves.j0 k a1 (decide (a1 < 1)) l0_0 l0_1) else (spec_WorstGloves.j0 k a1 true l0_0 l0_1)) = some (r1, r2, r3) := H
  have A6 := Aside0.mk A60
  clear A60
  by_cases c7 : t272 = true
  ·subst c7
   have H1 : (spec_WorstGloves.j0 k a1 (decide (a1 < 1)) l0_0 l0_1) = some (r1, r2, r3) := by rw [if_pos rfl] at H; exact H
   clear H
   have H := H1
   clear H1
   have H' := Aside0.mk H
   clear H
   have hnb8 := NB270_271.1
   have hnc8 := NB271_270.1
   have hcz9_0 : w5.cell? ⟨gb270, 0, none⟩ = some (.slice A0_0 l0_0.length c0_0) := (blk_cell BK270.1 0).trans rfl
   have hcz9_1 : w5.cell? ⟨gb270, 1, none⟩ = some (.slice A0_1 l0_1.length c0_1) := (blk_cell BK270.1 1).trans rfl
   have hfz9_0 := blk_frozen BK270.1 0
   have hfz9_1 := blk_frozen BK270.1 1
   go_wp2_with (first | ((with_reducible refine gate_callee (f := 45) rfl ?_); refine goesL_ (some 13) rfl rfl Try.func45 (by kernel_rfl) rfl #[.agg #[.slice A0_0 l0_0.length c0_0, .slice A0_1 l0_1.length c0_1]] rfl (by (try simp only [List.map_toArray, List.map_cons, List.map_nil]); first | done | rfl | (simp only [List.length_drop, List.length_take]; rfl)) ?_; (with_reducible refine (spec_gvGood.calls k _ _ l0_0 _ _ l0_1 true _ ?side1 ?side2 ?side3 ?side4 A6.1).mono ?_); (case side1 => repeat (first | exact (Kd.C_below HR0_0.1 HB.1) | (with_reducible refine Kd.C_alloc ?_ _) | (with_reducible refine Kd.C_drewN ?_ _) | (with_reducible refine Kd.C_drew ?_))); (case side2 => exact HC0_0.1); (case side3 => repeat (first | exact (Kd.C_below HR0_1.1 HB.1) | (with_reducible refine Kd.C_alloc ?_ _) | (with_reducible refine Kd.C_drewN ?_ _) | (with_reducible refine Kd.C_drew ?_))); (case side4 => exact HC0_1.1); rintro e w10 ⟨rfl, hb⟩; refine ⟨_, rfl, ?_⟩; have n0_ := Aside0.mk (blk_below (g := gb270) (o := .cells #[.slice A0_0 l0_0.length c0_0, .slice A0_1 l0_1.length c0_1] 28 (0, 0)) (by (with_reducible repeat (first | refine blk_drewN ?_ _ | refine blk_drew ?_ | refine blk_alloc ?_ _)); exact BK270.1) hb); have n1_ := Aside0.mk (blk_below (g := gb271) (o := .cells #[.slice none 0 0, .slice none 0 0] 28 (0, 0)) (by (with_reducible repeat (first | refine blk_drewN ?_ _ | refine blk_drew ?_ | refine blk_alloc ?_ _)); exact BK271.1) hb); have n2_ := Aside0.mk (below_step (by repeat (first | (with_reducible first | exact HB.1 | apply below_alloc | apply pw_below_drewN | apply below_drew1 | refine below_set ?_ GE270.1 | refine below_set ?_ GE271.1) | exact HB.1)) hb); clear BK270; clear BK271; clear HB; have BK270 := n0_; have BK271 := n1_; have HB := n2_; clear n0_ n1_ n2_; (try clear hb); (try clear hb2); (try clear hk); (try clear hi)))
   go_meet
   case rel => exact ⟨_, (decide (a1 < 1)), (by first | rfl | (simp; done) | (simp [*]; done) | (simp [Go.IntWalk.i64_left]; done)), H', ⟨by first | omega | exact Nat.le_refl _⟩, ⟨by (with_reducible repeat (first | refine blk_drewN ?_ _ | refine blk_drew ?_ | refine blk_alloc ?_ _)); exact BK270.1⟩, ⟨by (with_reducible repeat (first | refine blk_drewN ?_ _ | refine blk_drew ?_ | refine blk_alloc ?_ _)); exact BK271.1⟩, ⟨by repeat (first | (with_reducible first | exact HB.1 | apply below_alloc | apply pw_below_drewN | apply below_drew1 | refine below_set ?_ GE270.1 | refine below_set ?_ GE271.1) | exact HB.1)⟩⟩
  ·replace c7 := Bool.eq_false_iff.mpr c7
   subst c7
   have H1 : (spec_WorstGloves.j0 k a1 true l0_0 l0_1) = some (r1, r2, r3) := by rw [if_neg (show ¬ (false = true) by decide)] at H; exact H
   clear H
   have H := H1
   clear H1
   have H' := Aside0.mk H
   clear H
   have hnb11 := NB270_271.1
   have hnc11 := NB271_270.1
   have hcz12_0 : w5.cell? ⟨gb270, 0, none⟩ = some (.slice A0_0 l0_0.length c0_0) := (blk_cell BK270.1 0).trans rfl
   have hcz12_1 : w5.cell? ⟨gb270, 1, none⟩ = some (.slice A0_1 l0_1.length c0_1) := (blk_cell BK270.1 1).trans rfl
   have hfz12_0 := blk_frozen BK270.1 0
   have hfz12_1 := blk_frozen BK270.1 1
   go_wp2_with (first | ((with_reducible refine gate_callee (f := 45) rfl ?_); refine goesL_ (some 13) rfl rfl Try.func45 (by kernel_rfl) rfl #[.agg #[.slice A0_0 l0_0.length c0_0, .slice A0_1 l0_1.length c0_1]] rfl (by (try simp only [List.map_toArray, List.map_cons, List.map_nil]); first | done | rfl | (simp only [List.length_drop, List.length_take]; rfl)) ?_; (with_reducible refine (spec_gvGood.calls k _ _ l0_0 _ _ l0_1 false _ ?side1 ?side2 ?side3 ?side4 A6.1).mono ?_); (case side1 => repeat (first | exact (Kd.C_below HR0_0.1 HB.1) | (with_reducible refine Kd.C_alloc ?_ _) | (with_reducible refine Kd.C_drewN ?_ _) | (with_reducible refine Kd.C_drew ?_))); (case side2 => exact HC0_0.1); (case side3 => repeat (first | exact (Kd.C_below HR0_1.1 HB.1) | (with_reducible refine Kd.C_alloc ?_ _) | (with_reducible refine Kd.C_drewN ?_ _) | (with_reducible refine Kd.C_drew ?_))); (case side4 => exact HC0_1.1); rintro e w13 ⟨rfl, hb⟩; refine ⟨_, rfl, ?_⟩; have n0_ := Aside0.mk (blk_below (g := gb270) (o := .cells #[.slice A0_0 l0_0.length c0_0, .slice A0_1 l0_1.length c0_1] 28 (0, 0)) (by (with_reducible repeat (first | refine blk_drewN ?_ _ | refine blk_drew ?_ | refine blk_alloc ?_ _)); exact BK270.1) hb); have n1_ := Aside0.mk (blk_below (g := gb271) (o := .cells #[.slice none 0 0, .slice none 0 0] 28 (0, 0)) (by (with_reducible repeat (first | refine blk_drewN ?_ _ | refine blk_drew ?_ | refine blk_alloc ?_ _)); exact BK271.1) hb); have n2_ := Aside0.mk (below_step (by repeat (first | (with_reducible first | exact HB.1 | apply below_alloc | apply pw_below_drewN | apply below_drew1 | refine below_set ?_ GE270.1 | refine below_set ?_ GE271.1) | exact HB.1)) hb); clear BK270; clear BK271; clear HB; have BK270 := n0_; have BK271 := n1_; have HB := n2_; clear n0_ n1_ n2_; (try clear hb); (try clear hb2); (try clear hk); (try clear hi)))
   go_meet
   case rel => exact ⟨_, (true), (by first | rfl | (simp; done) | (simp [*]; done) | (simp [Go.IntWalk.i64_left]; done)), H', ⟨by first | omega | exact Nat.le_refl _⟩, ⟨by (with_reducible repeat (first | refine blk_drewN ?_ _ | refine blk_drew ?_ | refine blk_alloc ?_ _)); exact BK270.1⟩, ⟨by (with_reducible repeat (first | refine blk_drewN ?_ _ | refine blk_drew ?_ | refine blk_alloc ?_ _)); exact BK271.1⟩, ⟨by repeat (first | (with_reducible first | exact HB.1 | apply below_alloc | apply pw_below_drewN | apply below_drew1 | refine below_set ?_ GE270.1 | refine below_set ?_ GE271.1) | exact HB.1)⟩⟩
 case rest =>
  clear HC3
  try clear c1
  try clear p2
  try clear c4
  try clear c7
  try clear c8
  try clear c11
  try clear hcz12_0
  try clear hcz12_1
  try clear hcz9_0
  try clear hcz9_1
  try clear hfz12_0
  try clear hfz12_1
  try clear hfz9_0
  try clear hfz9_1
  obtain ⟨kq, x18_2, rfl, HA, HJ2, BK270, BK271, HB⟩ := hcut
  cases kq with
  | zero => exact absurd HA.1 (by simp [spec_WorstGloves.j0])
  | succ kj2 =>
   have H := HA.1
   clear HA
   simp only [spec_WorstGloves.j0] at H
   by_cases c14 : x18_2 = true
   ·subst c14
    have H1 : (some (([] : List Int), ([] : List Int), false)) = some (r1, r2, r3) := by rw [if_pos rfl] at H; exact H
    clear H
    have H := H1
    clear H1
    simp only [Option.some.injEq, Prod.mk.injEq] at H
    obtain ⟨rfl, rfl, rfl⟩ := H
    have hnb15 := NB271_270.1
    have hnc15 := NB270_271.1
    have hcz16_0 : wc.cell? ⟨gb271, 0, none⟩ = some (.slice none 0 0) := (blk_cell BK271.1 0).trans rfl
    have hcz16_1 : wc.cell? ⟨gb271, 1, none⟩ = some (.slice none 0 0) := (blk_cell BK271.1 1).trans rfl
    have hfz16_0 := blk_frozen BK271.1 0
    have hfz16_1 := blk_frozen BK271.1 1
    go_wp2
    refine bodyPost_ret (results_ct rfl _ _ gb271 28 #[.slice none 0 0, .slice none 0 0] (0, 0) _ rfl (by (with_reducible repeat (first | refine blk_drewN ?_ _ | refine blk_drew ?_ | refine blk_alloc ?_ _)); refine blk_put (cs := #[.slice none 0 0, .slice none 0 0]) ?_ 1 _ rfl; (with_reducible repeat (first | refine blk_drewN ?_ _ | refine blk_drew ?_ | refine blk_alloc ?_ _)); refine blk_put (cs := #[.slice none 0 0, .slice none 0 0]) ?_ 0 _ rfl; (with_reducible repeat (first | refine blk_drewN ?_ _ | refine blk_drew ?_ | refine blk_alloc ?_ _)); exact BK271.1) Try.underlying28 rfl (by kernel_rfl)) rfl ?_
    exact ⟨_, _, by first | rfl | (simp [errW_none, errW_some] <;> rfl) | (simp [Go.IntWalk.i64_left]; done) | (simp [*, errW_none, errW_some] <;> rfl), by first | exact Kd.R_nil _ _ _ _ _ | exact Kd.N_nil _ _ _ _ _ | exact Kd.V_nil _ _ _ _ _ | exact Kd.Q_nil _ _ _ _ _ | exact Kd.S_nil _ _ _ _ _, by first | exact Kd.R_nil _ _ _ _ _ | exact Kd.N_nil _ _ _ _ _ | exact Kd.V_nil _ _ _ _ _ | exact Kd.Q_nil _ _ _ _ _ | exact Kd.S_nil _ _ _ _ _, by repeat (first | (with_reducible first | exact HB.1 | apply below_alloc | apply pw_below_drewN | apply below_drew1 | refine below_set ?_ GE270.1 | refine below_set ?_ GE271.1) | exact HB.1)⟩
   ·replace c14 := Bool.eq_false_iff.mpr c14
    subst c14
    have H1 : (spec_WorstGloves.l0 kj2 (wrap64 (a1 - 1)) l0_0 (l0_0.length : Int) 0 l0_0 l0_1 ([] : List Int) ([] : List Int)) = some (r1, r2, r3) := by rw [if_neg (show ¬ (false = true) by decide)] at H; exact H
    clear H
    have H := H1
    clear H1
    have H' := Aside0.mk H
    clear H
    go_wp2_with (first | ((with_reducible refine gate_dst (N := 6) rfl ?_); refine box_event ?hg (N := 6) ?hd (cs := #[.slice none 0 0, .slice none 0 0]) (t := 28) ?hr ?_; (case hd => rfl); (case hg => rfl); (case hr => first | (go_simp; done) | (go_simp; rfl)); intro gb273 hg w17 hbox hb; have n0_ := Aside0.mk (blk_below (g := gb270) (o := .cells #[.slice A0_0 l0_0.length c0_0, .slice A0_1 l0_1.length c0_1] 28 (0, 0)) (by (with_reducible repeat (first | refine blk_drewN ?_ _ | refine blk_drew ?_ | refine blk_alloc ?_ _)); exact BK270.1) hb); have n1_ := Aside0.mk (blk_below (g := gb271) (o := .cells #[.slice none 0 0, .slice none 0 0] 28 (0, 0)) (by (with_reducible repeat (first | refine blk_drewN ?_ _ | refine blk_drew ?_ | refine blk_alloc ?_ _)); exact BK271.1) hb); have n2_ := Aside0.mk (below_step (by repeat (first | (with_reducible first | exact HB.1 | apply below_alloc | apply pw_below_drewN | apply below_drew1 | refine below_set ?_ GE270.1 | refine below_set ?_ GE271.1) | exact HB.1)) hb); have n3_ := Aside0.mk (hbox); have n4_ := Aside0.mk ((by rw [hg]; exact (below_size (by repeat (first | (with_reducible first | exact HB.1 | apply below_alloc | apply pw_below_drewN | apply below_drew1 | refine below_set ?_ GE270.1 | refine below_set ?_ GE271.1) | exact HB.1))) : w.heap.size ≤ gb273)); have n5_ := Aside0.mk ((by rw [hg]; exact (below_size (by repeat (first | (with_reducible first | exact HB.1 | apply below_alloc | apply pw_below_drewN | apply below_drew1 | refine below_set ?_ GE270.1 | refine below_set ?_ GE271.1) | exact HB.1))) : w.heap.size ≤ gb273)); have n6_ := Aside0.mk ((by rw [hg]; exact Nat.ne_of_lt (blk_lt (g := gb270) (o := .cells #[.slice A0_0 l0_0.length c0_0, .slice A0_1 l0_1.length c0_1] 28 (0, 0)) (by (with_reducible repeat (first | refine blk_drewN ?_ _ | refine blk_drew ?_ | refine blk_alloc ?_ _)); exact BK270.1)) : gb270 ≠ gb273)); have n7_ := Aside0.mk ((by rw [hg]; exact Nat.ne_of_gt (blk_lt (g := gb270) (o := .cells #[.slice A0_0 l0_0.length c0_0, .slice A0_1 l0_1.length c0_1] 28 (0, 0)) (by (with_reducible repeat (first | refine blk_drewN ?_ _ | refine blk_drew ?_ | refine blk_alloc ?_ _)); exact BK270.1)) : gb273 ≠ gb270)); have n8_ := Aside0.mk ((by rw [hg]; exact Nat.ne_of_lt (blk_lt (g := gb271) (o := .cells #[.slice none 0 0, .slice none 0 0] 28 (0, 0)) (by (with_reducible repeat (first | refine blk_drewN ?_ _ | refine blk_drew ?_ | refine blk_alloc ?_ _)); exact BK271.1)) : gb271 ≠ gb273)); have n9_ := Aside0.mk ((by rw [hg]; exact Nat.ne_of_gt (blk_lt (g := gb271) (o := .cells #[.slice none 0 0, .slice none 0 0] 28 (0, 0)) (by (with_reducible repeat (first | refine blk_drewN ?_ _ | refine blk_drew ?_ | refine blk_alloc ?_ _)); exact BK271.1)) : gb273 ≠ gb271)); clear BK270; clear BK271; clear HB; have BK270 := n0_; have BK271 := n1_; have HB := n2_; have BK273 := n3_; have GW273 := n4_; have GE273 := n5_; have NB270_273 := n6_; have NB273_270 := n7_; have NB271_273 := n8_; have NB273_271 := n9_; clear n0_ n1_ n2_ n3_ n4_ n5_ n6_ n7_ n8_ n9_; clear hb hbox hg; have hnb18 := NB270_271.1; have hnc18 := NB271_270.1; have hnb19 := NB270_273.1; have hnc19 := NB273_270.1; have hcz20_0 : w17.cell? ⟨gb270, 0, none⟩ = some (.slice A0_0 l0_0.length c0_0) := (blk_cell BK270.1 0).trans rfl; have hcz20_1 : w17.cell? ⟨gb270, 1, none⟩ = some (.slice A0_1 l0_1.length c0_1) := (blk_cell BK270.1 1).trans rfl; have hfz20_0 := blk_frozen BK270.1 0; have hfz20_1 := blk_frozen BK270.1 1))
    go_loopg [7, 25] kj2 (fun kq v7 v25 w' => ∃ (x7_2 : Int) (x25_2 : Int) (x274000_2 : List Int) (x274001_2 : List Int) (u274000 : Value) (u274001 : Value), v7 = .int .i64 x7_2 ∧ v25 = .int .i64 x25_2 ∧ Aside0 (spec_WorstGloves.l0 kq x7_2 l0_0 (l0_0.length : Int) x25_2 l0_0 l0_1 x274000_2 x274001_2 = some (r1, r2, r3)) ∧ Aside0 (kq ≤ kj2) ∧ Aside0 (Kd.R (Kd.int .i64) 3 w' w.heap.size (fun k_ => some k_ ≠ (u274001 : Value).ownBlock) u274000 x274000_2) ∧ Aside0 (Kd.R (Kd.int .i64) 3 w' w.heap.size (fun k_ => some k_ ≠ (u274000 : Value).ownBlock) u274001 x274001_2) ∧ Aside0 (w'.heap[gb270]? = some (.cells #[(.slice A0_0 l0_0.length c0_0), (.slice A0_1 l0_1.length c0_1)] 28 (0, 0))) ∧ Aside0 (w'.heap[gb271]? = some (.cells #[(.slice none 0 0), (.slice none 0 0)] 28 (0, 0))) ∧ Aside0 (w'.heap[gb273]? = some (.cells #[u274000, u274001] 28 (0, 0))) ∧ Aside0 (Below w.heap.size w w'))
    case atStart => exact ⟨(wrap64 (a1 - 1)), (0), (([] : List Int)), (([] : List Int)), (.slice none 0 0), (.slice none 0 0), (by first | rfl | (simp; done) | (simp [*]; done) | (simp [Go.IntWalk.i64_left]; done)), (by first | rfl | (simp; done) | (simp [*]; done) | (simp [Go.IntWalk.i64_left]; done)), H', ⟨Nat.le_refl _⟩, ⟨by first | exact Kd.R_nil _ _ _ _ _ | exact Kd.N_nil _ _ _ _ _ | exact Kd.V_nil _ _ _ _ _ | exact Kd.Q_nil _ _ _ _ _ | exact Kd.S_nil _ _ _ _ _⟩, ⟨by first | exact Kd.R_nil _ _ _ _ _ | exact Kd.N_nil _ _ _ _ _ | exact Kd.V_nil _ _ _ _ _ | exact Kd.Q_nil _ _ _ _ _ | exact Kd.S_nil _ _ _ _ _⟩, ⟨by (with_reducible repeat (first | refine blk_drewN ?_ _ | refine blk_drew ?_ | refine blk_alloc ?_ _)); exact BK270.1⟩, ⟨by (with_reducible repeat (first | refine blk_drewN ?_ _ | refine blk_drew ?_ | refine blk_alloc ?_ _)); exact BK271.1⟩, ⟨by (with_reducible repeat (first | refine blk_drewN ?_ _ | refine blk_drew ?_ | refine blk_alloc ?_ _)); exact BK273.1⟩, ⟨by repeat (first | (with_reducible first | exact HB.1 | apply below_alloc | apply pw_below_drewN | apply below_drew1 | refine below_set ?_ GE270.1 | refine below_set ?_ GE271.1 | refine below_set ?_ GE273.1) | exact HB.1)⟩⟩
    case round =>
     clear H'
     try clear c1
     try clear p2
     try clear c4
     try clear p6
     try clear c7
     try clear c8
     try clear c11
     try clear c14
     try clear c15
     try clear c18
     try clear c19
     try clear hcz12_0
     try clear hcz12_1
     try clear hcz16_0
     try clear hcz16_1
     try clear hcz20_0
     try clear hcz20_1
     try clear hcz9_0
     try clear hcz9_1
     try clear hfz12_0
     try clear hfz12_1
     try clear hfz16_0
     try clear hfz16_1
     try clear hfz20_0
     try clear hfz20_1
     try clear hfz9_0
     try clear hfz9_1
     try clear p2
     obtain ⟨x7_2, x25_2, x274000_2, x274001_2, u274000, u274001, rfl, rfl, HA, HK2, Q274_0, Q274_1, BK270, BK271, BK273, HB⟩ := hrel
     cases gk with
     | zero => exact absurd HA.1 (by simp [spec_WorstGloves.l0])
     | succ k2 =>
      have H := HA.1
      clear HA
      simp only [spec_WorstGloves.l0] at H
      by_cases c21 : x25_2 < (l0_0.length : Int)
      ·rw [if_pos c21] at H
       have c21b0 : decide (x25_2 < (l0_0.length : Int)) = true := decide_eq_true c21
       clear c21
       by_cases c22 : 0 ≤ x25_2
       ·rw [if_pos c22] at H
        have c22b0 : decide (0 ≤ x25_2) = true := decide_eq_true c22
        clear c22
        by_cases c23 : x25_2 < (l0_0.length : Int)
        ·rw [if_pos c23] at H
         have c23b0 : decide (x25_2 < (l0_0.length : Int)) = true := decide_eq_true c23
         clear c23
         by_cases c24 : x25_2 < (l0_1.length : Int)
         ·rw [if_pos c24] at H
          have c24b0 : decide (x25_2 < (l0_1.length : Int)) = true := decide_eq_true c24
          clear c24
          replace H := Option.bind_eq_some_iff.mp H
          obtain ⟨t276, A250, H⟩ := H
          replace H : ((spec_l1Least.f x7_2 t276).bind fun t277 => (if (rd l0_0 x25_2) ≥ (rd l0_1 x25_2) then (if x274000_2.length < 17592186044416 then (if x274001_2.length < 17592186044416 then (spec_WorstGloves.l0 k2 (wrap64 (x7_2 - t277)) l0_0 (l0_0.length : Int) (wrap64 (x25_2 + 1)) l0_0 l0_1 (x274000_2 ++ [rd l0_0 x25_2]) (x274001_2 ++ [t277])) else (none)) else (none)) else (if x274000_2.length < 17592186044416 then (if x274001_2.length < 17592186044416 then (spec_WorstGloves.l0 k2 (wrap64 (x7_2 - t277)) l0_0 (l0_0.length : Int) (wrap64 (x25_2 + 1)) l0_0 l0_1 (x274000_2 ++ [t277]) (x274001_2 ++ [rd l0_1 x25_2])) else (none)) else (none)))) = some (r1, r2, r3) := H
          have A25 := Aside0.mk A250
          clear A250
          replace H := Option.bind_eq_some_iff.mp H
          obtain ⟨t277, A260, H⟩ := H
          replace H : (if (rd l0_0 x25_2) ≥ (rd l0_1 x25_2) then (if x274000_2.length < 17592186044416 then (if x274001_2.length < 17592186044416 then (spec_WorstGloves.l0 k2 (wrap64 (x7_2 - t277)) l0_0 (l0_0.length : Int) (wrap64 (x25_2 + 1)) l0_0 l0_1 (x274000_2 ++ [rd l0_0 x25_2]) (x274001_2 ++ [t277])) else (none)) else (none)) else (if x274000_2.length < 17592186044416 then (if x274001_2.length < 17592186044416 then (spec_WorstGloves.l0 k2 (wrap64 (x7_2 - t277)) l0_0 (l0_0.length : Int) (wrap64 (x25_2 + 1)) l0_0 l0_1 (x274000_2 ++ [t277]) (x274001_2 ++ [rd l0_1 x25_2])) else (none)) else (none))) = some (r1, r2, r3) := H
          have A26 := Aside0.mk A260
          clear A260
          by_cases c27 : (rd l0_0 x25_2) ≥ (rd l0_1 x25_2)
          ·rw [if_pos c27] at H
           have c27b0 : decide ((rd l0_1 x25_2) ≤ (rd l0_0 x25_2)) = true := decide_eq_true c27
           clear c27
           by_cases c28 : x274000_2.length < 17592186044416
           ·rw [if_pos c28] at H
            have LMc28 := Aside0.mk c28
            clear c28
            obtain ⟨y278, hy278⟩ : ∃ y_ : List Int, y_ = (x274000_2 ++ [rd l0_0 x25_2]) := ⟨_, rfl⟩
            replace H : (if x274001_2.length < 17592186044416 then (spec_WorstGloves.l0 k2 (wrap64 (x7_2 - t277)) l0_0 (l0_0.length : Int) (wrap64 (x25_2 + 1)) l0_0 l0_1 y278 (x274001_2 ++ [t277])) else (none)) = some (r1, r2, r3) := by first | (rw [hy278]; with_reducible exact H) | (have H2_ := (Option.bind_some _ _).symm.trans H; rw [hy278]; with_reducible exact H2_) | (have H2_ := (Option.bind_some _ _).symm.trans H; with_reducible exact H2_) | with_reducible exact H | (rw [hy278]; exact H) | exact H
            have Ny278 := Aside0.mk hy278
            clear hy278
            by_cases c29 : x274001_2.length < 17592186044416
            ·rw [if_pos c29] at H
             have LMc29 := Aside0.mk c29
             clear c29
             obtain ⟨y281, hy281⟩ : ∃ y_ : List Int, y_ = (x274001_2 ++ [t277]) := ⟨_, rfl⟩
             replace H : (spec_WorstGloves.l0 k2 (wrap64 (x7_2 - t277)) l0_0 (l0_0.length : Int) (wrap64 (x25_2 + 1)) l0_0 l0_1 y278 y281) = some (r1, r2, r3) := by first | (rw [hy281]; with_reducible exact H) | (have H2_ := (Option.bind_some _ _).symm.trans H; rw [hy281]; with_reducible exact H2_) | (have H2_ := (Option.bind_some _ _).symm.trans H; with_reducible exact H2_) | with_reducible exact H | (rw [hy281]; exact H) | exact H
             have Ny281 := Aside0.mk hy281
             clear hy281
             have H' := Aside0.mk H
             clear H
             have p274 : 0 ≤ (x25_2 : Int) := of_decide_eq_true (by first | (with_reducible assumption) | assumption)
             have q274 : x25_2 < (l0_0.length : Int) := of_decide_eq_true (by first | (with_reducible assumption) | assumption)
             obtain ⟨ad274, e274, hx274_0⟩ := Kd.at_int HR0_0.1 x25_2 p274 q274
             cases e274
             replace hx274_0 := (HB.1.cell (World.block_lt_of_cell? w _ hx274_0)).trans hx274_0
             replace p274 := eq_true p274
             replace q274 := eq_true q274
             have hnb30 := NB270_271.1
             have hnc30 := NB271_270.1
             have hnb31 := NB270_273.1
             have hnc31 := NB273_270.1
             have hcz32_0 : wr.cell? ⟨gb270, 0, none⟩ = some (.slice (some ad274) l0_0.length c0_0) := (blk_cell BK270.1 0).trans rfl
             have hcz32_1 : wr.cell? ⟨gb270, 1, none⟩ = some (.slice A0_1 l0_1.length c0_1) := (blk_cell BK270.1 1).trans rfl
             have hfz32_0 := blk_frozen BK270.1 0
             have hfz32_1 := blk_frozen BK270.1 1
             have p275 : 0 ≤ (x25_2 : Int) := of_decide_eq_true (by first | (with_reducible assumption) | assumption)
             have q275 : x25_2 < (l0_1.length : Int) := of_decide_eq_true (by first | (with_reducible assumption) | assumption)
             obtain ⟨ad275, e275, hx275_0⟩ := Kd.at_int HR0_1.1 x25_2 p275 q275
             cases e275
             replace hx275_0 := (HB.1.cell (World.block_lt_of_cell? w _ hx275_0)).trans hx275_0
             replace p275 := eq_true p275
             replace q275 := eq_true q275
             go_wp2_with (first | ((with_reducible refine gate_callee (f := 76) rfl ?_); refine goesL_ (some 38) rfl rfl Try.func76 (by kernel_rfl) rfl #[.int .i64 (rd l0_0 x25_2), .int .i64 (rd l0_1 x25_2)] rfl (by (try simp only [List.map_toArray, List.map_cons, List.map_nil]); first | done | rfl | (simp only [List.length_drop, List.length_take]; rfl)) ?_; (with_reducible refine (spec_l1Least.calls (rd l0_0 x25_2) (rd l0_1 x25_2) t276 _ A25.1).mono ?_); rintro e w' ⟨rfl, ⟨nd, rfl⟩⟩; refine ⟨_, rfl, ?_⟩; (try (rw [drewN_self wr]; generalize hq_ : World.drewN wr _ = wr; have n0_ : Aside0 (Kd.R (Kd.int .i64) 3 wr w.heap.size (fun k_ => some k_ ≠ (u274001 : Value).ownBlock) u274000 x274000_2) := ⟨by rw [← hq_]; exact (by (with_reducible repeat (first | apply Kd.R_alloc | apply Kd.R_drewN | apply Kd.R_drew)); exact Q274_0.1)⟩; have n1_ : Aside0 (Kd.R (Kd.int .i64) 3 wr w.heap.size (fun k_ => some k_ ≠ (u274000 : Value).ownBlock) u274001 x274001_2) := ⟨by rw [← hq_]; exact (by (with_reducible repeat (first | apply Kd.R_alloc | apply Kd.R_drewN | apply Kd.R_drew)); exact Q274_1.1)⟩; have n2_ : Aside0 (wr.heap[gb270]? = some (.cells #[.slice (some ad274) l0_0.length c0_0, .slice (some ad275) l0_1.length c0_1] 28 (0, 0))) := ⟨by rw [← hq_]; exact (by (with_reducible repeat (first | refine blk_drewN ?_ _ | refine blk_drew ?_ | refine blk_alloc ?_ _)); exact BK270.1)⟩; have n3_ : Aside0 (wr.heap[gb271]? = some (.cells #[.slice none 0 0, .slice none 0 0] 28 (0, 0))) := ⟨by rw [← hq_]; exact (by (with_reducible repeat (first | refine blk_drewN ?_ _ | refine blk_drew ?_ | refine blk_alloc ?_ _)); exact BK271.1)⟩; have n4_ : Aside0 (wr.heap[gb273]? = some (.cells #[u274000, u274001] 28 (0, 0))) := ⟨by rw [← hq_]; exact (by (with_reducible repeat (first | refine blk_drewN ?_ _ | refine blk_drew ?_ | refine blk_alloc ?_ _)); exact BK273.1)⟩; have n5_ : Aside0 (Below w.heap.size w wr) := ⟨by rw [← hq_]; exact (by repeat (first | (with_reducible first | exact HB.1 | apply below_alloc | apply pw_below_drewN | apply below_drew1 | refine below_set ?_ GE270.1 | refine below_set ?_ GE271.1 | refine below_set ?_ GE273.1) | exact HB.1))⟩; clear Q274_0 Q274_1 BK270 BK271 BK273 HB hq_; have Q274_0 := n0_; have Q274_1 := n1_; have BK270 := n2_; have BK271 := n3_; have BK273 := n4_; have HB := n5_; clear n0_ n1_ n2_ n3_ n4_ n5_))) | ((with_reducible refine gate_callee (f := 76) rfl ?_); refine goesL_ (some 39) rfl rfl Try.func76 (by kernel_rfl) rfl #[.int .i64 x7_2, .int .i64 t276] rfl (by (try simp only [List.map_toArray, List.map_cons, List.map_nil]); first | done | rfl | (simp only [List.length_drop, List.length_take]; rfl)) ?_; (with_reducible refine (spec_l1Least.calls x7_2 t276 t277 _ A26.1).mono ?_); rintro e w' ⟨rfl, ⟨nd, rfl⟩⟩; refine ⟨_, rfl, ?_⟩; (try (rw [drewN_self wr]; generalize hq_ : World.drewN wr _ = wr; have n0_ : Aside0 (Kd.R (Kd.int .i64) 3 wr w.heap.size (fun k_ => some k_ ≠ (u274001 : Value).ownBlock) u274000 x274000_2) := ⟨by rw [← hq_]; exact (by (with_reducible repeat (first | apply Kd.R_alloc | apply Kd.R_drewN | apply Kd.R_drew)); exact Q274_0.1)⟩; have n1_ : Aside0 (Kd.R (Kd.int .i64) 3 wr w.heap.size (fun k_ => some k_ ≠ (u274000 : Value).ownBlock) u274001 x274001_2) := ⟨by rw [← hq_]; exact (by (with_reducible repeat (first | apply Kd.R_alloc | apply Kd.R_drewN | apply Kd.R_drew)); exact Q274_1.1)⟩; have n2_ : Aside0 (wr.heap[gb270]? = some (.cells #[.slice (some ad274) l0_0.length c0_0, .slice (some ad275) l0_1.length c0_1] 28 (0, 0))) := ⟨by rw [← hq_]; exact (by (with_reducible repeat (first | refine blk_drewN ?_ _ | refine blk_drew ?_ | refine blk_alloc ?_ _)); exact BK270.1)⟩; have n3_ : Aside0 (wr.heap[gb271]? = some (.cells #[.slice none 0 0, .slice none 0 0] 28 (0, 0))) := ⟨by rw [← hq_]; exact (by (with_reducible repeat (first | refine blk_drewN ?_ _ | refine blk_drew ?_ | refine blk_alloc ?_ _)); exact BK271.1)⟩; have n4_ : Aside0 (wr.heap[gb273]? = some (.cells #[u274000, u274001] 28 (0, 0))) := ⟨by rw [← hq_]; exact (by (with_reducible repeat (first | refine blk_drewN ?_ _ | refine blk_drew ?_ | refine blk_alloc ?_ _)); exact BK273.1)⟩; have n5_ : Aside0 (Below w.heap.size w wr) := ⟨by rw [← hq_]; exact (by repeat (first | (with_reducible first | exact HB.1 | apply below_alloc | apply pw_below_drewN | apply below_drew1 | refine below_set ?_ GE270.1 | refine below_set ?_ GE271.1 | refine below_set ?_ GE273.1) | exact HB.1))⟩; clear Q274_0 Q274_1 BK270 BK271 BK273 HB hq_; have Q274_0 := n0_; have Q274_1 := n1_; have BK270 := n2_; have BK271 := n3_; have BK273 := n4_; have HB := n5_; clear n0_ n1_ n2_ n3_ n4_ n5_)); have hnb33 := NB273_271.1; have hnc33 := NB271_273.1; have hcz34_0 : wr.cell? ⟨gb273, 0, none⟩ = some (u274000) := (blk_cell BK273.1 0).trans rfl; have hcz34_1 : wr.cell? ⟨gb273, 1, none⟩ = some (u274001) := (blk_cell BK273.1 1).trans rfl; have hfz34_0 := blk_frozen BK273.1 0; have hfz34_1 := blk_frozen BK273.1 1) | ((with_reducible refine gate_builtin (b := .append) (xs := #[.tmp 47, .tmp 49]) rfl ?_); at_builtin; refine Kd.R_append (Kd.int .i64) (w0 := w) w.heap.size rfl (.tmp 47) (.tmp 49) 22 3 (.int .i64 0) 8 rfl Try.underlying22 info3 rfl (by decide) (by omega) u274000 x274000_2 (rd l0_0 x25_2) [.int .i64 (rd l0_0 x25_2)] (fun k_ => some k_ ≠ (u274001 : Value).ownBlock) (fun _ => False) rfl rfl ?aP (fun _ hk => hk.elim) ?aF ?aO ?aB ?aS ?aL ?_; (case aP => exact rfl); (case aB => exact (by repeat (first | (with_reducible first | exact HB.1 | apply below_alloc | apply pw_below_drewN | apply below_drew1 | refine below_set ?_ GE270.1 | refine below_set ?_ GE271.1 | refine below_set ?_ GE273.1) | exact HB.1))); (case aF => exact (fun k_ hk => Kd.fresh' (Kd.R_lt (by (with_reducible repeat (first | apply Kd.R_alloc | apply Kd.R_drewN | apply Kd.R_drew)); exact Q274_1.1)) k_ hk)); (case aO => exact (by (with_reducible repeat (first | apply Kd.R_alloc | apply Kd.R_drewN | apply Kd.R_drew)); exact Q274_0.1)); (case aS => exact (below_size (by repeat (first | (with_reducible first | exact HB.1 | apply below_alloc | apply pw_below_drewN | apply below_drew1 | refine below_set ?_ GE270.1 | refine below_set ?_ GE271.1 | refine below_set ?_ GE273.1) | exact HB.1)))); (case aL => have := LMc28.1; omega); intro v279 w35 ho hb hg hat; rw [← Ny278.1] at ho; have n0_ := Aside0.mk (Kd.R_after (ok := (fun _ => True)) (by (with_reducible repeat (first | apply Kd.R_alloc | apply Kd.R_drewN | apply Kd.R_drew)); exact Kd.R_mono Q274_1.1 (fun _ hk => ⟨trivial, hk⟩)) hg hat); have n1_ := Aside0.mk (blk_grown (g := gb270) (o := .cells #[.slice (some ad274) l0_0.length c0_0, .slice (some ad275) l0_1.length c0_1] 28 (0, 0)) (by (with_reducible repeat (first | refine blk_drewN ?_ _ | refine blk_drew ?_ | refine blk_alloc ?_ _)); exact BK270.1) hg (Kd.R_ne Q274_0.1 BK270.1 (by decide))); have n2_ := Aside0.mk (blk_grown (g := gb271) (o := .cells #[.slice none 0 0, .slice none 0 0] 28 (0, 0)) (by (with_reducible repeat (first | refine blk_drewN ?_ _ | refine blk_drew ?_ | refine blk_alloc ?_ _)); exact BK271.1) hg (Kd.R_ne Q274_0.1 BK271.1 (by decide))); have n3_ := Aside0.mk (blk_grown (g := gb273) (o := .cells #[u274000, u274001] 28 (0, 0)) (by (with_reducible repeat (first | refine blk_drewN ?_ _ | refine blk_drew ?_ | refine blk_alloc ?_ _)); exact BK273.1) hg (Kd.R_ne Q274_0.1 BK273.1 (by decide))); have n4_ := Aside0.mk (hb); have n5_ := Aside0.mk (ho); clear Q274_1; clear BK270; clear BK271; clear BK273; clear HB; clear Q274_0; have Q274_1 := n0_; have BK270 := n1_; have BK271 := n2_; have BK273 := n3_; have HB := n4_; have HO280 := n5_; clear n0_ n1_ n2_ n3_ n4_ n5_; clear ho hb hg hat; obtain ⟨Ao36, co36, eo36⟩ := Kd.R_slice HO280.1; subst eo36; have hcz37_0 : w35.cell? ⟨gb273, 0, none⟩ = some (u274000) := (blk_cell BK273.1 0).trans rfl; have hcz37_1 : w35.cell? ⟨gb273, 1, none⟩ = some (u274001) := (blk_cell BK273.1 1).trans rfl; have hfz37_0 := blk_frozen BK273.1 0; have hfz37_1 := blk_frozen BK273.1 1) | ((with_reducible refine gate_builtin (b := .append) (xs := #[.tmp 53, .tmp 55]) rfl ?_); at_builtin; refine Kd.R_append (Kd.int .i64) (w0 := w) w.heap.size rfl (.tmp 53) (.tmp 55) 22 3 (.int .i64 0) 8 rfl Try.underlying22 info3 rfl (by decide) (by omega) u274001 x274001_2 t277 [.int .i64 t277] (fun k_ => some k_ ≠ (.slice Ao36 y278.length co36 : Value).ownBlock) (fun _ => False) rfl (by first | (go_simp; done) | (go_simp; rfl)) ?aP (fun _ hk => hk.elim) ?aF ?aO ?aB ?aS ?aL ?_; (case aP => exact rfl); (case aB => exact (by repeat (first | (with_reducible first | exact HB.1 | apply below_alloc | apply pw_below_drewN | apply below_drew1 | refine below_set ?_ GE270.1 | refine below_set ?_ GE271.1 | refine below_set ?_ GE273.1) | exact HB.1))); (case aF => exact (fun k_ hk => Kd.fresh' (Kd.R_lt (by (with_reducible repeat (first | apply Kd.R_alloc | apply Kd.R_drewN | apply Kd.R_drew)); exact (Kd.R_mono (Kd.R_far (p := ⟨gb273, 0, none⟩) (Kd.R_types HO280.1 BK273.1 (by decide)) (fun _ hk => hk.2) (.slice Ao36 y278.length co36)) (fun _ h_ => h_.1)))) k_ hk)); (case aO => exact (by (with_reducible repeat (first | apply Kd.R_alloc | apply Kd.R_drewN | apply Kd.R_drew)); exact Kd.R_mono (Kd.R_far (p := ⟨gb273, 0, none⟩) (Kd.R_types Q274_1.1 BK273.1 (by decide)) (fun _ hk => hk.2) (.slice Ao36 y278.length co36)) (fun _ hk => hk.1.2))); (case aS => exact (below_size (by repeat (first | (with_reducible first | exact HB.1 | apply below_alloc | apply pw_below_drewN | apply below_drew1 | refine below_set ?_ GE270.1 | refine below_set ?_ GE271.1 | refine below_set ?_ GE273.1) | exact HB.1)))); (case aL => have := LMc29.1; omega); intro v282 w38 ho hb hg hat; rw [← Ny281.1] at ho; have n0_ := Aside0.mk (blk_grown (g := gb270) (o := .cells #[.slice (some ad274) l0_0.length c0_0, .slice (some ad275) l0_1.length c0_1] 28 (0, 0)) (by (with_reducible repeat (first | refine blk_drewN ?_ _ | refine blk_drew ?_ | refine blk_alloc ?_ _)); refine blk_far ?_ NB270_273.1 _; (with_reducible repeat (first | refine blk_drewN ?_ _ | refine blk_drew ?_ | refine blk_alloc ?_ _)); exact BK270.1) hg (Kd.R_ne Q274_1.1 BK270.1 (by decide))); have n1_ := Aside0.mk (blk_grown (g := gb271) (o := .cells #[.slice none 0 0, .slice none 0 0] 28 (0, 0)) (by (with_reducible repeat (first | refine blk_drewN ?_ _ | refine blk_drew ?_ | refine blk_alloc ?_ _)); refine blk_far ?_ NB271_273.1 _; (with_reducible repeat (first | refine blk_drewN ?_ _ | refine blk_drew ?_ | refine blk_alloc ?_ _)); exact BK271.1) hg (Kd.R_ne Q274_1.1 BK271.1 (by decide))); have n2_ := Aside0.mk (blk_grown (g := gb273) (o := .cells #[.slice Ao36 y278.length co36, u274001] 28 (0, 0)) (by (with_reducible repeat (first | refine blk_drewN ?_ _ | refine blk_drew ?_ | refine blk_alloc ?_ _)); refine blk_put (cs := #[u274000, u274001]) ?_ 0 _ rfl; (with_reducible repeat (first | refine blk_drewN ?_ _ | refine blk_drew ?_ | refine blk_alloc ?_ _)); exact BK273.1) hg (Kd.R_ne Q274_1.1 BK273.1 (by decide))); have n3_ := Aside0.mk (Kd.R_after (ok := (fun _ => True)) (by (with_reducible repeat (first | apply Kd.R_alloc | apply Kd.R_drewN | apply Kd.R_drew)); exact Kd.R_mono (Kd.R_far (p := ⟨gb273, 0, none⟩) (Kd.R_types HO280.1 BK273.1 (by decide)) (fun _ hk => hk.2) (.slice Ao36 y278.length co36)) (fun _ hk => ⟨trivial, hk.1⟩)) hg hat); have n4_ := Aside0.mk (hb); have n5_ := Aside0.mk (ho); clear BK270; clear BK271; clear BK273; clear HO280; clear HB; clear Q274_1; have BK270 := n0_; have BK271 := n1_; have BK273 := n2_; have HO280 := n3_; have HB := n4_; have HO283 := n5_; clear n0_ n1_ n2_ n3_ n4_ n5_; clear ho hb hg hat; obtain ⟨Ao39, co39, eo39⟩ := Kd.R_slice HO283.1; subst eo39; have hcz40_0 : w38.cell? ⟨gb273, 0, none⟩ = some (.slice Ao36 y278.length co36) := (blk_cell BK273.1 0).trans rfl; have hcz40_1 : w38.cell? ⟨gb273, 1, none⟩ = some (u274001) := (blk_cell BK273.1 1).trans rfl; have hfz40_0 := blk_frozen BK273.1 0; have hfz40_1 := blk_frozen BK273.1 1))
             go_roundg k2
             case measure => have := HJ2.1; have := HK2.1; omega
             case rel => exact ⟨(wrap64 (x7_2 - t277)), (wrap64 (x25_2 + 1)), (y278), (y281), (.slice Ao36 y278.length co36), (.slice Ao39 y281.length co39), (by first | rfl | (simp; done) | (simp [*]; done) | (simp [Go.IntWalk.i64_left]; done)), (by first | rfl | (simp; done) | (simp [*]; done) | (simp [Go.IntWalk.i64_left]; done)), H', ⟨by have := HJ2.1; have := HK2.1; omega⟩, ⟨by (with_reducible repeat (first | apply Kd.R_alloc | apply Kd.R_drewN | apply Kd.R_drew)); exact Kd.R_mono (Kd.R_far (p := ⟨gb273, 1, none⟩) (Kd.R_types HO280.1 BK273.1 (by decide)) (fun _ hk => hk.2) (.slice Ao39 y281.length co39)) (fun _ hk => hk.1.2)⟩, ⟨by (with_reducible repeat (first | apply Kd.R_alloc | apply Kd.R_drewN | apply Kd.R_drew)); exact Kd.R_mono (Kd.R_far (p := ⟨gb273, 1, none⟩) (Kd.R_types HO283.1 BK273.1 (by decide)) (fun _ hk => hk.2) (.slice Ao39 y281.length co39)) (fun _ hk => hk.1)⟩, ⟨by (with_reducible repeat (first | refine blk_drewN ?_ _ | refine blk_drew ?_ | refine blk_alloc ?_ _)); refine blk_far ?_ NB270_273.1 _; (with_reducible repeat (first | refine blk_drewN ?_ _ | refine blk_drew ?_ | refine blk_alloc ?_ _)); exact BK270.1⟩, ⟨by (with_reducible repeat (first | refine blk_drewN ?_ _ | refine blk_drew ?_ | refine blk_alloc ?_ _)); refine blk_far ?_ NB271_273.1 _; (with_reducible repeat (first | refine blk_drewN ?_ _ | refine blk_drew ?_ | refine blk_alloc ?_ _)); exact BK271.1⟩, ⟨by (with_reducible repeat (first | refine blk_drewN ?_ _ | refine blk_drew ?_ | refine blk_alloc ?_ _)); refine blk_put (cs := #[.slice Ao36 y278.length co36, u274001]) ?_ 1 _ rfl; (with_reducible repeat (first | refine blk_drewN ?_ _ | refine blk_drew ?_ | refine blk_alloc ?_ _)); exact BK273.1⟩, ⟨by repeat (first | (with_reducible first | exact HB.1 | apply below_alloc | apply pw_below_drewN | apply below_drew1 | refine below_set ?_ GE270.1 | refine below_set ?_ GE271.1 | refine below_set ?_ GE273.1) | exact HB.1)⟩⟩
            ·rw [if_neg c29] at H
             exact absurd H (by simp)
           ·rw [if_neg c28] at H
            exact absurd H (by simp)
          ·rw [if_neg c27] at H
           have c27b0 : decide ((rd l0_1 x25_2) ≤ (rd l0_0 x25_2)) = false := decide_eq_false c27
           clear c27
           by_cases c41 : x274000_2.length < 17592186044416
           ·rw [if_pos c41] at H
            have LMc41 := Aside0.mk c41
            clear c41
            obtain ⟨y284, hy284⟩ : ∃ y_ : List Int, y_ = (x274000_2 ++ [t277]) := ⟨_, rfl⟩
            replace H : (if x274001_2.length < 17592186044416 then (spec_WorstGloves.l0 k2 (wrap64 (x7_2 - t277)) l0_0 (l0_0.length : Int) (wrap64 (x25_2 + 1)) l0_0 l0_1 y284 (x274001_2 ++ [rd l0_1 x25_2])) else (none)) = some (r1, r2, r3) := by first | (rw [hy284]; with_reducible exact H) | (have H2_ := (Option.bind_some _ _).symm.trans H; rw [hy284]; with_reducible exact H2_) | (have H2_ := (Option.bind_some _ _).symm.trans H; with_reducible exact H2_) | with_reducible exact H | (rw [hy284]; exact H) | exact H
            have Ny284 := Aside0.mk hy284
            clear hy284
            by_cases c42 : x274001_2.length < 17592186044416
            ·rw [if_pos c42] at H
             have LMc42 := Aside0.mk c42
             clear c42
             obtain ⟨y287, hy287⟩ : ∃ y_ : List Int, y_ = (x274001_2 ++ [rd l0_1 x25_2]) := ⟨_, rfl⟩
             replace H : (spec_WorstGloves.l0 k2 (wrap64 (x7_2 - t277)) l0_0 (l0_0.length : Int) (wrap64 (x25_2 + 1)) l0_0 l0_1 y284 y287) = some (r1, r2, r3) := by first | (rw [hy287]; with_reducible exact H) | (have H2_ := (Option.bind_some _ _).symm.trans H; rw [hy287]; with_reducible exact H2_) | (have H2_ := (Option.bind_some _ _).symm.trans H; with_reducible exact H2_) | with_reducible exact H | (rw [hy287]; exact H) | exact H
             have Ny287 := Aside0.mk hy287
             clear hy287
             have H' := Aside0.mk H
             clear H
             have p274 : 0 ≤ (x25_2 : Int) := of_decide_eq_true (by first | (with_reducible assumption) | assumption)
             have q274 : x25_2 < (l0_0.length : Int) := of_decide_eq_true (by first | (with_reducible assumption) | assumption)
             obtain ⟨ad274, e274, hx274_0⟩ := Kd.at_int HR0_0.1 x25_2 p274 q274
             cases e274
             replace hx274_0 := (HB.1.cell (World.block_lt_of_cell? w _ hx274_0)).trans hx274_0
             replace p274 := eq_true p274
             replace q274 := eq_true q274
             have hnb43 := NB270_271.1
             have hnc43 := NB271_270.1
             have hnb44 := NB270_273.1
             have hnc44 := NB273_270.1
             have hcz45_0 : wr.cell? ⟨gb270, 0, none⟩ = some (.slice (some ad274) l0_0.length c0_0) := (blk_cell BK270.1 0).trans rfl
             have hcz45_1 : wr.cell? ⟨gb270, 1, none⟩ = some (.slice A0_1 l0_1.length c0_1) := (blk_cell BK270.1 1).trans rfl
             have hfz45_0 := blk_frozen BK270.1 0
             have hfz45_1 := blk_frozen BK270.1 1
             have p275 : 0 ≤ (x25_2 : Int) := of_decide_eq_true (by first | (with_reducible assumption) | assumption)
             have q275 : x25_2 < (l0_1.length : Int) := of_decide_eq_true (by first | (with_reducible assumption) | assumption)
             obtain ⟨ad275, e275, hx275_0⟩ := Kd.at_int HR0_1.1 x25_2 p275 q275
             cases e275
             replace hx275_0 := (HB.1.cell (World.block_lt_of_cell? w _ hx275_0)).trans hx275_0
             replace p275 := eq_true p275
             replace q275 := eq_true q275
             go_wp2_with (first | ((with_reducible refine gate_callee (f := 76) rfl ?_); refine goesL_ (some 38) rfl rfl Try.func76 (by kernel_rfl) rfl #[.int .i64 (rd l0_0 x25_2), .int .i64 (rd l0_1 x25_2)] rfl (by (try simp only [List.map_toArray, List.map_cons, List.map_nil]); first | done | rfl | (simp only [List.length_drop, List.length_take]; rfl)) ?_; (with_reducible refine (spec_l1Least.calls (rd l0_0 x25_2) (rd l0_1 x25_2) t276 _ A25.1).mono ?_); rintro e w' ⟨rfl, ⟨nd, rfl⟩⟩; refine ⟨_, rfl, ?_⟩; (try (rw [drewN_self wr]; generalize hq_ : World.drewN wr _ = wr; have n0_ : Aside0 (Kd.R (Kd.int .i64) 3 wr w.heap.size (fun k_ => some k_ ≠ (u274001 : Value).ownBlock) u274000 x274000_2) := ⟨by rw [← hq_]; exact (by (with_reducible repeat (first | apply Kd.R_alloc | apply Kd.R_drewN | apply Kd.R_drew)); exact Q274_0.1)⟩; have n1_ : Aside0 (Kd.R (Kd.int .i64) 3 wr w.heap.size (fun k_ => some k_ ≠ (u274000 : Value).ownBlock) u274001 x274001_2) := ⟨by rw [← hq_]; exact (by (with_reducible repeat (first | apply Kd.R_alloc | apply Kd.R_drewN | apply Kd.R_drew)); exact Q274_1.1)⟩; have n2_ : Aside0 (wr.heap[gb270]? = some (.cells #[.slice (some ad274) l0_0.length c0_0, .slice (some ad275) l0_1.length c0_1] 28 (0, 0))) := ⟨by rw [← hq_]; exact (by (with_reducible repeat (first | refine blk_drewN ?_ _ | refine blk_drew ?_ | refine blk_alloc ?_ _)); exact BK270.1)⟩; have n3_ : Aside0 (wr.heap[gb271]? = some (.cells #[.slice none 0 0, .slice none 0 0] 28 (0, 0))) := ⟨by rw [← hq_]; exact (by (with_reducible repeat (first | refine blk_drewN ?_ _ | refine blk_drew ?_ | refine blk_alloc ?_ _)); exact BK271.1)⟩; have n4_ : Aside0 (wr.heap[gb273]? = some (.cells #[u274000, u274001] 28 (0, 0))) := ⟨by rw [← hq_]; exact (by (with_reducible repeat (first | refine blk_drewN ?_ _ | refine blk_drew ?_ | refine blk_alloc ?_ _)); exact BK273.1)⟩; have n5_ : Aside0 (Below w.heap.size w wr) := ⟨by rw [← hq_]; exact (by repeat (first | (with_reducible first | exact HB.1 | apply below_alloc | apply pw_below_drewN | apply below_drew1 | refine below_set ?_ GE270.1 | refine below_set ?_ GE271.1 | refine below_set ?_ GE273.1) | exact HB.1))⟩; clear Q274_0 Q274_1 BK270 BK271 BK273 HB hq_; have Q274_0 := n0_; have Q274_1 := n1_; have BK270 := n2_; have BK271 := n3_; have BK273 := n4_; have HB := n5_; clear n0_ n1_ n2_ n3_ n4_ n5_))) | ((with_reducible refine gate_callee (f := 76) rfl ?_); refine goesL_ (some 39) rfl rfl Try.func76 (by kernel_rfl) rfl #[.int .i64 x7_2, .int .i64 t276] rfl (by (try simp only [List.map_toArray, List.map_cons, List.map_nil]); first | done | rfl | (simp only [List.length_drop, List.length_take]; rfl)) ?_; (with_reducible refine (spec_l1Least.calls x7_2 t276 t277 _ A26.1).mono ?_); rintro e w' ⟨rfl, ⟨nd, rfl⟩⟩; refine ⟨_, rfl, ?_⟩; (try (rw [drewN_self wr]; generalize hq_ : World.drewN wr _ = wr; have n0_ : Aside0 (Kd.R (Kd.int .i64) 3 wr w.heap.size (fun k_ => some k_ ≠ (u274001 : Value).ownBlock) u274000 x274000_2) := ⟨by rw [← hq_]; exact (by (with_reducible repeat (first | apply Kd.R_alloc | apply Kd.R_drewN | apply Kd.R_drew)); exact Q274_0.1)⟩; have n1_ : Aside0 (Kd.R (Kd.int .i64) 3 wr w.heap.size (fun k_ => some k_ ≠ (u274000 : Value).ownBlock) u274001 x274001_2) := ⟨by rw [← hq_]; exact (by (with_reducible repeat (first | apply Kd.R_alloc | apply Kd.R_drewN | apply Kd.R_drew)); exact Q274_1.1)⟩; have n2_ : Aside0 (wr.heap[gb270]? = some (.cells #[.slice (some ad274) l0_0.length c0_0, .slice (some ad275) l0_1.length c0_1] 28 (0, 0))) := ⟨by rw [← hq_]; exact (by (with_reducible repeat (first | refine blk_drewN ?_ _ | refine blk_drew ?_ | refine blk_alloc ?_ _)); exact BK270.1)⟩; have n3_ : Aside0 (wr.heap[gb271]? = some (.cells #[.slice none 0 0, .slice none 0 0] 28 (0, 0))) := ⟨by rw [← hq_]; exact (by (with_reducible repeat (first | refine blk_drewN ?_ _ | refine blk_drew ?_ | refine blk_alloc ?_ _)); exact BK271.1)⟩; have n4_ : Aside0 (wr.heap[gb273]? = some (.cells #[u274000, u274001] 28 (0, 0))) := ⟨by rw [← hq_]; exact (by (with_reducible repeat (first | refine blk_drewN ?_ _ | refine blk_drew ?_ | refine blk_alloc ?_ _)); exact BK273.1)⟩; have n5_ : Aside0 (Below w.heap.size w wr) := ⟨by rw [← hq_]; exact (by repeat (first | (with_reducible first | exact HB.1 | apply below_alloc | apply pw_below_drewN | apply below_drew1 | refine below_set ?_ GE270.1 | refine below_set ?_ GE271.1 | refine below_set ?_ GE273.1) | exact HB.1))⟩; clear Q274_0 Q274_1 BK270 BK271 BK273 HB hq_; have Q274_0 := n0_; have Q274_1 := n1_; have BK270 := n2_; have BK271 := n3_; have BK273 := n4_; have HB := n5_; clear n0_ n1_ n2_ n3_ n4_ n5_)); have hnb46 := NB273_271.1; have hnc46 := NB271_273.1; have hcz47_0 : wr.cell? ⟨gb273, 0, none⟩ = some (u274000) := (blk_cell BK273.1 0).trans rfl; have hcz47_1 : wr.cell? ⟨gb273, 1, none⟩ = some (u274001) := (blk_cell BK273.1 1).trans rfl; have hfz47_0 := blk_frozen BK273.1 0; have hfz47_1 := blk_frozen BK273.1 1) | ((with_reducible refine gate_builtin (b := .append) (xs := #[.tmp 59, .tmp 61]) rfl ?_); at_builtin; refine Kd.R_append (Kd.int .i64) (w0 := w) w.heap.size rfl (.tmp 59) (.tmp 61) 22 3 (.int .i64 0) 8 rfl Try.underlying22 info3 rfl (by decide) (by omega) u274000 x274000_2 t277 [.int .i64 t277] (fun k_ => some k_ ≠ (u274001 : Value).ownBlock) (fun _ => False) rfl rfl ?aP (fun _ hk => hk.elim) ?aF ?aO ?aB ?aS ?aL ?_; (case aP => exact rfl); (case aB => exact (by repeat (first | (with_reducible first | exact HB.1 | apply below_alloc | apply pw_below_drewN | apply below_drew1 | refine below_set ?_ GE270.1 | refine below_set ?_ GE271.1 | refine below_set ?_ GE273.1) | exact HB.1))); (case aF => exact (fun k_ hk => Kd.fresh' (Kd.R_lt (by (with_reducible repeat (first | apply Kd.R_alloc | apply Kd.R_drewN | apply Kd.R_drew)); exact Q274_1.1)) k_ hk)); (case aO => exact (by (with_reducible repeat (first | apply Kd.R_alloc | apply Kd.R_drewN | apply Kd.R_drew)); exact Q274_0.1)); (case aS => exact (below_size (by repeat (first | (with_reducible first | exact HB.1 | apply below_alloc | apply pw_below_drewN | apply below_drew1 | refine below_set ?_ GE270.1 | refine below_set ?_ GE271.1 | refine below_set ?_ GE273.1) | exact HB.1)))); (case aL => have := LMc41.1; omega); intro v285 w48 ho hb hg hat; rw [← Ny284.1] at ho; have n0_ := Aside0.mk (Kd.R_after (ok := (fun _ => True)) (by (with_reducible repeat (first | apply Kd.R_alloc | apply Kd.R_drewN | apply Kd.R_drew)); exact Kd.R_mono Q274_1.1 (fun _ hk => ⟨trivial, hk⟩)) hg hat); have n1_ := Aside0.mk (blk_grown (g := gb270) (o := .cells #[.slice (some ad274) l0_0.length c0_0, .slice (some ad275) l0_1.length c0_1] 28 (0, 0)) (by (with_reducible repeat (first | refine blk_drewN ?_ _ | refine blk_drew ?_ | refine blk_alloc ?_ _)); exact BK270.1) hg (Kd.R_ne Q274_0.1 BK270.1 (by decide))); have n2_ := Aside0.mk (blk_grown (g := gb271) (o := .cells #[.slice none 0 0, .slice none 0 0] 28 (0, 0)) (by (with_reducible repeat (first | refine blk_drewN ?_ _ | refine blk_drew ?_ | refine blk_alloc ?_ _)); exact BK271.1) hg (Kd.R_ne Q274_0.1 BK271.1 (by decide))); have n3_ := Aside0.mk (blk_grown (g := gb273) (o := .cells #[u274000, u274001] 28 (0, 0)) (by (with_reducible repeat (first | refine blk_drewN ?_ _ | refine blk_drew ?_ | refine blk_alloc ?_ _)); exact BK273.1) hg (Kd.R_ne Q274_0.1 BK273.1 (by decide))); have n4_ := Aside0.mk (hb); have n5_ := Aside0.mk (ho); clear Q274_1; clear BK270; clear BK271; clear BK273; clear HB; clear Q274_0; have Q274_1 := n0_; have BK270 := n1_; have BK271 := n2_; have BK273 := n3_; have HB := n4_; have HO286 := n5_; clear n0_ n1_ n2_ n3_ n4_ n5_; clear ho hb hg hat; obtain ⟨Ao49, co49, eo49⟩ := Kd.R_slice HO286.1; subst eo49; have hcz50_0 : w48.cell? ⟨gb273, 0, none⟩ = some (u274000) := (blk_cell BK273.1 0).trans rfl; have hcz50_1 : w48.cell? ⟨gb273, 1, none⟩ = some (u274001) := (blk_cell BK273.1 1).trans rfl; have hfz50_0 := blk_frozen BK273.1 0; have hfz50_1 := blk_frozen BK273.1 1) | ((with_reducible refine gate_builtin (b := .append) (xs := #[.tmp 65, .tmp 67]) rfl ?_); at_builtin; refine Kd.R_append (Kd.int .i64) (w0 := w) w.heap.size rfl (.tmp 65) (.tmp 67) 22 3 (.int .i64 0) 8 rfl Try.underlying22 info3 rfl (by decide) (by omega) u274001 x274001_2 (rd l0_1 x25_2) [.int .i64 (rd l0_1 x25_2)] (fun k_ => some k_ ≠ (.slice Ao49 y284.length co49 : Value).ownBlock) (fun _ => False) rfl (by first | (go_simp; done) | (go_simp; rfl)) ?aP (fun _ hk => hk.elim) ?aF ?aO ?aB ?aS ?aL ?_; (case aP => exact rfl); (case aB => exact (by repeat (first | (with_reducible first | exact HB.1 | apply below_alloc | apply pw_below_drewN | apply below_drew1 | refine below_set ?_ GE270.1 | refine below_set ?_ GE271.1 | refine below_set ?_ GE273.1) | exact HB.1))); (case aF => exact (fun k_ hk => Kd.fresh' (Kd.R_lt (by (with_reducible repeat (first | apply Kd.R_alloc | apply Kd.R_drewN | apply Kd.R_drew)); exact (Kd.R_mono (Kd.R_far (p := ⟨gb273, 0, none⟩) (Kd.R_types HO286.1 BK273.1 (by decide)) (fun _ hk => hk.2) (.slice Ao49 y284.length co49)) (fun _ h_ => h_.1)))) k_ hk)); (case aO => exact (by (with_reducible repeat (first | apply Kd.R_alloc | apply Kd.R_drewN | apply Kd.R_drew)); exact Kd.R_mono (Kd.R_far (p := ⟨gb273, 0, none⟩) (Kd.R_types Q274_1.1 BK273.1 (by decide)) (fun _ hk => hk.2) (.slice Ao49 y284.length co49)) (fun _ hk => hk.1.2))); (case aS => exact (below_size (by repeat (first | (with_reducible first | exact HB.1 | apply below_alloc | apply pw_below_drewN | apply below_drew1 | refine below_set ?_ GE270.1 | refine below_set ?_ GE271.1 | refine below_set ?_ GE273.1) | exact HB.1)))); (case aL => have := LMc42.1; omega); intro v288 w51 ho hb hg hat; rw [← Ny287.1] at ho; have n0_ := Aside0.mk (blk_grown (g := gb270) (o := .cells #[.slice (some ad274) l0_0.length c0_0, .slice (some ad275) l0_1.length c0_1] 28 (0, 0)) (by (with_reducible repeat (first | refine blk_drewN ?_ _ | refine blk_drew ?_ | refine blk_alloc ?_ _)); refine blk_far ?_ NB270_273.1 _; (with_reducible repeat (first | refine blk_drewN ?_ _ | refine blk_drew ?_ | refine blk_alloc ?_ _)); exact BK270.1) hg (Kd.R_ne Q274_1.1 BK270.1 (by decide))); have n1_ := Aside0.mk (blk_grown (g := gb271) (o := .cells #[.slice none 0 0, .slice none 0 0] 28 (0, 0)) (by (with_reducible repeat (first | refine blk_drewN ?_ _ | refine blk_drew ?_ | refine blk_alloc ?_ _)); refine blk_far ?_ NB271_273.1 _; (with_reducible repeat (first | refine blk_drewN ?_ _ | refine blk_drew ?_ | refine blk_alloc ?_ _)); exact BK271.1) hg (Kd.R_ne Q274_1.1 BK271.1 (by decide))); have n2_ := Aside0.mk (blk_grown (g := gb273) (o := .cells #[.slice Ao49 y284.length co49, u274001] 28 (0, 0)) (by (with_reducible repeat (first | refine blk_drewN ?_ _ | refine blk_drew ?_ | refine blk_alloc ?_ _)); refine blk_put (cs := #[u274000, u274001]) ?_ 0 _ rfl; (with_reducible repeat (first | refine blk_drewN ?_ _ | refine blk_drew ?_ | refine blk_alloc ?_ _)); exact BK273.1) hg (Kd.R_ne Q274_1.1 BK273.1 (by decide))); have n3_ := Aside0.mk (Kd.R_after (ok := (fun _ => True)) (by (with_reducible repeat (first | apply Kd.R_alloc | apply Kd.R_drewN | apply Kd.R_drew)); exact Kd.R_mono (Kd.R_far (p := ⟨gb273, 0, none⟩) (Kd.R_types HO286.1 BK273.1 (by decide)) (fun _ hk => hk.2) (.slice Ao49 y284.length co49)) (fun _ hk => ⟨trivial, hk.1⟩)) hg hat); have n4_ := Aside0.mk (hb); have n5_ := Aside0.mk (ho); clear BK270; clear BK271; clear BK273; clear HO286; clear HB; clear Q274_1; have BK270 := n0_; have BK271 := n1_; have BK273 := n2_; have HO286 := n3_; have HB := n4_; have HO289 := n5_; clear n0_ n1_ n2_ n3_ n4_ n5_; clear ho hb hg hat; obtain ⟨Ao52, co52, eo52⟩ := Kd.R_slice HO289.1; subst eo52; have hcz53_0 : w51.cell? ⟨gb273, 0, none⟩ = some (.slice Ao49 y284.length co49) := (blk_cell BK273.1 0).trans rfl; have hcz53_1 : w51.cell? ⟨gb273, 1, none⟩ = some (u274001) := (blk_cell BK273.1 1).trans rfl; have hfz53_0 := blk_frozen BK273.1 0; have hfz53_1 := blk_frozen BK273.1 1))
             go_roundg k2
             case measure => have := HJ2.1; have := HK2.1; omega
             case rel => exact ⟨(wrap64 (x7_2 - t277)), (wrap64 (x25_2 + 1)), (y284), (y287), (.slice Ao49 y284.length co49), (.slice Ao52 y287.length co52), (by first | rfl | (simp; done) | (simp [*]; done) | (simp [Go.IntWalk.i64_left]; done)), (by first | rfl | (simp; done) | (simp [*]; done) | (simp [Go.IntWalk.i64_left]; done)), H', ⟨by have := HJ2.1; have := HK2.1; omega⟩, ⟨by (with_reducible repeat (first | apply Kd.R_alloc | apply Kd.R_drewN | apply Kd.R_drew)); exact Kd.R_mono (Kd.R_far (p := ⟨gb273, 1, none⟩) (Kd.R_types HO286.1 BK273.1 (by decide)) (fun _ hk => hk.2) (.slice Ao52 y287.length co52)) (fun _ hk => hk.1.2)⟩, ⟨by (with_reducible repeat (first | apply Kd.R_alloc | apply Kd.R_drewN | apply Kd.R_drew)); exact Kd.R_mono (Kd.R_far (p := ⟨gb273, 1, none⟩) (Kd.R_types HO289.1 BK273.1 (by decide)) (fun _ hk => hk.2) (.slice Ao52 y287.length co52)) (fun _ hk => hk.1)⟩, ⟨by (with_reducible repeat (first | refine blk_drewN ?_ _ | refine blk_drew ?_ | refine blk_alloc ?_ _)); refine blk_far ?_ NB270_273.1 _; (with_reducible repeat (first | refine blk_drewN ?_ _ | refine blk_drew ?_ | refine blk_alloc ?_ _)); exact BK270.1⟩, ⟨by (with_reducible repeat (first | refine blk_drewN ?_ _ | refine blk_drew ?_ | refine blk_alloc ?_ _)); refine blk_far ?_ NB271_273.1 _; (with_reducible repeat (first | refine blk_drewN ?_ _ | refine blk_drew ?_ | refine blk_alloc ?_ _)); exact BK271.1⟩, ⟨by (with_reducible repeat (first | refine blk_drewN ?_ _ | refine blk_drew ?_ | refine blk_alloc ?_ _)); refine blk_put (cs := #[.slice Ao49 y284.length co49, u274001]) ?_ 1 _ rfl; (with_reducible repeat (first | refine blk_drewN ?_ _ | refine blk_drew ?_ | refine blk_alloc ?_ _)); exact BK273.1⟩, ⟨by repeat (first | (with_reducible first | exact HB.1 | apply below_alloc | apply pw_below_drewN | apply below_drew1 | refine below_set ?_ GE270.1 | refine below_set ?_ GE271.1 | refine below_set ?_ GE273.1) | exact HB.1)⟩⟩
            ·rw [if_neg c42] at H
             exact absurd H (by simp)
           ·rw [if_neg c41] at H
            exact absurd H (by simp)
         ·rw [if_neg c24] at H
          exact absurd H (by simp)
        ·rw [if_neg c23] at H
         exact absurd H (by simp)
       ·rw [if_neg c22] at H
        exact absurd H (by simp)
      ·rw [if_neg c21] at H
       have c21b0 : decide (x25_2 < (l0_0.length : Int)) = false := decide_eq_false c21
       clear c21
       simp only [Option.some.injEq, Prod.mk.injEq] at H
       obtain ⟨rfl, rfl, rfl⟩ := H
       have hnb54 := NB273_270.1
       have hnc54 := NB270_273.1
       have hnb55 := NB273_271.1
       have hnc55 := NB271_273.1
       have hcz56_0 : wr.cell? ⟨gb273, 0, none⟩ = some (u274000) := (blk_cell BK273.1 0).trans rfl
       have hcz56_1 : wr.cell? ⟨gb273, 1, none⟩ = some (u274001) := (blk_cell BK273.1 1).trans rfl
       have hfz56_0 := blk_frozen BK273.1 0
       have hfz56_1 := blk_frozen BK273.1 1
       obtain ⟨Ao57, co57, eo57⟩ := Kd.R_slice Q274_0.1
       subst eo57
       have hnb58 := NB271_270.1
       have hnc58 := NB270_271.1
       have hcz59_0 : wr.cell? ⟨gb271, 0, none⟩ = some (.slice none 0 0) := (blk_cell BK271.1 0).trans rfl
       have hcz59_1 : wr.cell? ⟨gb271, 1, none⟩ = some (.slice none 0 0) := (blk_cell BK271.1 1).trans rfl
       have hfz59_0 := blk_frozen BK271.1 0
       have hfz59_1 := blk_frozen BK271.1 1
       obtain ⟨Ao60, co60, eo60⟩ := Kd.R_slice Q274_1.1
       subst eo60
       go_wp2
       refine bodyPost_ret (results_ct rfl _ _ gb271 28 #[.slice Ao57 x274000_2.length co57, .slice Ao60 x274001_2.length co60] (0, 0) _ rfl (by (with_reducible repeat (first | refine blk_drewN ?_ _ | refine blk_drew ?_ | refine blk_alloc ?_ _)); refine blk_put (cs := #[.slice Ao57 x274000_2.length co57, .slice none 0 0]) ?_ 1 _ rfl; (with_reducible repeat (first | refine blk_drewN ?_ _ | refine blk_drew ?_ | refine blk_alloc ?_ _)); refine blk_put (cs := #[.slice none 0 0, .slice none 0 0]) ?_ 0 _ rfl; (with_reducible repeat (first | refine blk_drewN ?_ _ | refine blk_drew ?_ | refine blk_alloc ?_ _)); exact BK271.1) Try.underlying28 rfl (by kernel_rfl)) rfl ?_
       exact ⟨_, _, by first | rfl | (simp [errW_none, errW_some] <;> rfl) | (simp [Go.IntWalk.i64_left]; done) | (simp [*, errW_none, errW_some] <;> rfl), by (with_reducible repeat (first | apply Kd.R_alloc | apply Kd.R_drewN | apply Kd.R_drew)); exact Kd.R_mono (Kd.R_far (p := ⟨gb271, 1, none⟩) (Kd.R_far (p := ⟨gb271, 0, none⟩) (Kd.R_types Q274_0.1 BK271.1 (by decide)) (fun _ hk => hk.2) (.slice Ao57 x274000_2.length co57)) (fun _ hk => hk.2) (.slice Ao60 x274001_2.length co60)) (fun _ hk => hk.1), by (with_reducible repeat (first | apply Kd.R_alloc | apply Kd.R_drewN | apply Kd.R_drew)); exact Kd.R_mono (Kd.R_far (p := ⟨gb271, 1, none⟩) (Kd.R_far (p := ⟨gb271, 0, none⟩) (Kd.R_types Q274_1.1 BK271.1 (by decide)) (fun _ hk => hk.2) (.slice Ao57 x274000_2.length co57)) (fun _ hk => hk.2) (.slice Ao60 x274001_2.length co60)) (fun _ hk => hk.1), by repeat (first | (with_reducible first | exact HB.1 | apply below_alloc | apply pw_below_drewN | apply below_drew1 | refine below_set ?_ GE270.1 | refine below_set ?_ GE271.1 | refine below_set ?_ GE273.1) | exact HB.1)⟩

/-! ### impl_WorstGloves: function 43 -/
/-! #### a cell that a closure counts in -/
structure SameButW (B bi : Nat) (W W' : World) : Prop where
  os : W'.os = W.os
  tape : W'.tape = W.tape
  output : W'.output = W.output
  size : B ≤ W'.heap.size
  block : ∀ b, b < B → b ≠ bi → W'.heap[b]? = W.heap[b]?
structure ELW (w0 : World) (bi : Nat) (St : World → Prop) (w : World) (st : Int) : Prop where
  same : SameButW w0.heap.size bi w0 w
  size : w.heap.size = w0.heap.size
  cell : w.cell? ⟨bi, 0, none⟩ = some (.int .i64 st)
  fz : w.frozen? ⟨bi, 0, none⟩ = false
  st : St w
theorem block_of_cellbW {w : World} {b j : Nat} {v : Value} (h : w.cell? ⟨b, j, none⟩ = some v) : b < w.heap.size := by
  by_cases hlt : b < w.heap.size
  · exact hlt
  · have hn : w.heap[b]? = none := by simp; omega
    simp [World.cell?, hn] at h
theorem ELW.refl {w : World} {bi : Nat} {St : World → Prop} {s0 : Int} (hSt : St w) (hc : w.cell? ⟨bi, 0, none⟩ = some (.int .i64 s0)) (hf : w.frozen? ⟨bi, 0, none⟩ = false) : ELW w bi St w s0 :=
  ⟨⟨rfl, rfl, rfl, Nat.le_refl _, fun _ _ _ => rfl⟩, rfl, hc, hf, hSt⟩
section
variable {w0 w wr wn w2 : World} {bi : Nat} {St : World → Prop} {st ts : Int} {v : Value} {nd : Nat}
theorem frozen_of_blockW {w w' : World} {b j : Nat} (h : w'.heap[b]? = w.heap[b]?) : w'.frozen? ⟨b, j, none⟩ = w.frozen? ⟨b, j, none⟩ := by simp [World.frozen?, h]
theorem ELW.cellAt (h : ELW w0 bi St w st) (hbi : bi < w0.heap.size) (hB : Below w.heap.size w wr) : wr.cell? ⟨bi, 0, none⟩ = some (.int .i64 st) :=
  (World.cell?_of_block (hB.block bi (by rw [h.size]; exact hbi))).trans h.cell
theorem ELW.frozenAt (h : ELW w0 bi St w st) (hbi : bi < w0.heap.size) (hB : Below w.heap.size w wr) : wr.frozen? ⟨bi, 0, none⟩ = false :=
  (frozen_of_blockW (hB.block bi (by rw [h.size]; exact hbi))).trans h.fz
theorem ELW.stAt (h : ELW w0 bi St w st) (hStm : ∀ W W', St W → SameButW w0.heap.size bi W W' → St W') (hB : Below w.heap.size w wr) : St wr :=
  hStm w wr h.st ⟨hB.os, hB.tape, hB.output, by rw [← h.size]; exact hB.size, fun b hb _ => hB.block b (by rw [h.size]; exact hb)⟩
theorem ELW.next (h : ELW w0 bi St w st) (hbi : bi < w0.heap.size) (hStm : ∀ W W', St W → SameButW w0.heap.size bi W W' → St W') (hw : w2 = w.setCell ⟨bi, 0, none⟩ (.int .i64 ts)) : ELW w0 bi St w2 ts := by
  subst hw
  have hb : ∀ b, b ≠ bi → (w.setCell ⟨bi, 0, none⟩ (.int .i64 ts)).heap[b]? = w.heap[b]? := fun b hb => heap_setCell_other _ _ _ _ hb
  have hz : (w.setCell ⟨bi, 0, none⟩ (.int .i64 ts)).heap.size = w0.heap.size := by rw [World.size_setCell]; exact h.size
  refine ⟨⟨h.same.os, h.same.tape, h.same.output, Nat.le_of_eq hz.symm, fun b h1 h2 => (hb b h2).trans (h.same.block b h1 h2)⟩, hz, by first | exact World.cell?_setCell_same _ h.cell | exact World.cell?_setCell_same _ _ h.cell | exact World.cell?_setCell_same _ _ _ h.cell, ?_, hStm w _ h.st ⟨rfl, rfl, rfl, Nat.le_of_eq hz.symm, fun b _ h2 => hb b h2⟩⟩
  have := h.fz
  simp only [World.frozen?, World.setCell, Array.getElem?_modify] at this ⊢
  rw [if_pos trivial]
  cases hx : w.heap[bi]? with
  | none => simp
  | some o =>
    rw [hx] at this
    cases o <;> simp_all
theorem size_of_setW (hw : w2 = w.setCell ⟨bi, 0, none⟩ v) : w2.heap.size = w.heap.size := by rw [hw, World.size_setCell]
theorem R_biW {α : Type} {d : Kd α} {e base base' : Nat} {ok : Nat → Prop} {u : Value} {xs : List α} (h : d.R e wr base ok u xs) (hb : bi < base) (hz : base' = base) (hw : wn = (wr.setCell ⟨bi, 0, none⟩ v).drewN nd) : d.R e wn base' ok u xs := by
  subst hz
  subst hw
  have h1 := Kd.R_far (p := ⟨bi, 0, none⟩) (Kd.R_bound h) (fun k hk => by have := hk.2.1; show k ≠ bi; omega) v
  exact Kd.R_drewN (Kd.R_mono h1 (fun _ hk => hk.1)) nd
theorem blk_biW {g : Nat} {o : Obj} (h : wr.heap[g]? = some o) (hg : g ≠ bi) (hw : wn = (wr.setCell ⟨bi, 0, none⟩ v).drewN nd) : wn.heap[g]? = some o := by
  subst hw
  exact (heap_setCell_other wr ⟨bi, 0, none⟩ g v hg).trans h
theorem below_biW (h : Below w.heap.size w wr) (hb : bi < w.heap.size) (hw2 : w2 = w.setCell ⟨bi, 0, none⟩ v) (hw : wn = (wr.setCell ⟨bi, 0, none⟩ v).drewN nd) : Below w2.heap.size w2 wn := by
  subst hw2
  subst hw
  refine pw_below_drewN (w := w.setCell ⟨bi, 0, none⟩ v) (W := wr.setCell ⟨bi, 0, none⟩ v) ⟨h.os, h.tape, h.output, by rw [World.size_setCell, World.size_setCell]; exact h.size, fun k hk => ?_⟩ nd
  rw [World.size_setCell] at hk
  by_cases he : k = bi
  · subst he
    simp only [World.setCell, Array.getElem?_modify, if_pos rfl]
    rw [h.block k hk]
  · rw [heap_setCell_other _ _ _ _ he, heap_setCell_other _ _ _ _ he]
    exact h.block k hk
end
theorem below_sameW {w W W' : World} {B' bi : Nat} (h : Below w.heap.size w W) (hs : SameButW B' bi W W') (hB : w.heap.size ≤ B') (hbi : w.heap.size ≤ bi) : Below w.heap.size w W' :=
  ⟨hs.os.trans h.os, hs.tape.trans h.tape, hs.output.trans h.output, Nat.le_trans hB hs.size, fun k hk => (hs.block k (by omega) (by omega)).trans (h.block k hk)⟩
theorem R_farbW {α : Type} {d : Kd α} {e base g j : Nat} {ok : Nat → Prop} {u v : Value} {xs : List α} {wr : World} (h : d.R e wr base ok u xs) (hb : g < base) : d.R e (wr.setCell ⟨g, j, none⟩ v) base ok u xs :=
  Kd.R_mono (Kd.R_far (p := ⟨g, j, none⟩) (Kd.R_bound h) (fun k hk => by have := hk.2.1; show k ≠ g; omega) v) (fun _ hk => hk.1)
theorem rest_nilW {w4 : World} {g4 : Nat} (h4 : w4.heap[g4]? = some (.cells #[.slice none 0 0, .slice none 0 0] 28 (0, 0))) : w4.cell? ⟨g4, 0, none⟩ = some (.slice none 0 0) ∧ w4.cell? ⟨g4, 1, none⟩ = some (.slice none 0 0) ∧ w4.frozen? ⟨g4, 0, none⟩ = false ∧ w4.frozen? ⟨g4, 1, none⟩ = false :=
  ⟨(blk_cell h4 0).trans rfl, (blk_cell h4 1).trans rfl, blk_frozen h4 0, blk_frozen h4 1⟩
/-- The cell that was just laid and set. -/
theorem set_cellW {w6 : World} {g6 : Nat} {v : Value} (h : w6.heap[g6]? = some (.cells #[.int .i64 0] 3 (0, 0))) : (w6.setCell ⟨g6, 0, none⟩ v).cell? ⟨g6, 0, none⟩ = some v ∧ (w6.setCell ⟨g6, 0, none⟩ v).frozen? ⟨g6, 0, none⟩ = false := by
  have h2 := heap_setCell_same w6 g6 0 _ _ v h
  exact ⟨(blk_cell h2 0).trans rfl, blk_frozen h2 0⟩
def madeW.l0 (cl : Int → Int → Int → Option (Int × Int × Int)) : Nat → Int → List Int → Int → Int → List Int → List Int → List Int → List Int → Option (List Int × List Int × Bool)
 | 0, _, _, _, _, _, _, _, _ => none
 | k + 1, s, x17, x18, x19, x156000, x156001, x159000, x159001 => if x19 < x18 then (if 0 ≤ x19 then (if x19 < (x17.length : Int) then (if x19 < (x156001.length : Int) then ((cl s (rd x17 x19) (rd x156001 x19)).bind fun bt161 => ((some (([bt161.1] : List Int) : List Int)).bind fun y163 => (if x159000.length + y163.length < 17592186044416 then ((some (([bt161.2.1] : List Int) : List Int)).bind fun y169 => (if x159001.length + y169.length < 17592186044416 then (madeW.l0 cl k bt161.2.2 x17 x18 (wrap64 (x19 + 1)) x156000 x156001 (x159000 ++ y163) (x159001 ++ y169)) else (none))) else (none)))) else (none)) else (none)) else (none)) else ((impl_AreGloves.f k x159000 x159001).bind fun t175 => (if t175 = true then (some (x159000, x159001, true)) else (some (([] : List Int), ([] : List Int), false))))
def madeW.f (cl : Int → Int → Int → Option (Int × Int × Int)) (k : Nat) (s0 : Int) (l0_0 : List Int) (l0_1 : List Int)  : Option (List Int × List Int × Bool) := (impl_AreGloves.f k l0_0 l0_1).bind fun t157 => (if t157 = true then (madeW.l0 cl k s0 l0_0 (l0_0.length : Int) 0 l0_0 l0_1 ([] : List Int) ([] : List Int)) else (some (([] : List Int), ([] : List Int), false)))
theorem madeW.mono_l (cl : Int → Int → Int → Option (Int × Int × Int)) : ∀ k, (∀ s y0 y1 y2 y3 y4 y5 y6, LeO (madeW.l0 cl k s y0 y1 y2 y3 y4 y5 y6) (madeW.l0 cl (k + 1) s y0 y1 y2 y3 y4 y5 y6))
 | 0 => fun _ _ _ _ _ _ _ _ r h => by simp [madeW.l0] at h
 | k + 1 => by
  have ih0 := madeW.mono_l cl k
  intro s y0 y1 y2 y3 y4 y5 y6
  unfold madeW.l0
  repeat' first
   | (with_reducible exact ih0 _ _ _ _ _ _ _ _)
   | (with_reducible exact impl_AreGloves.mono _ _ _)
   | (with_reducible exact LeO.refl _)
   | (with_reducible exact LeO.none _)
   | (with_reducible refine LeO.ite ?_ ?_)
   | (with_reducible refine LeO.bind ?_ (fun _ => ?_))
   | exact ih0 _ _ _ _ _ _ _ _
   | exact impl_AreGloves.mono _ _ _
   | exact LeO.none _
   | refine LeO.ite ?_ ?_
   | refine LeO.bind ?_ (fun _ => ?_)
theorem madeW.mono (cl : Int → Int → Int → Option (Int × Int × Int)) : ∀ s a0 a1 k, LeO (madeW.f cl k s a0 a1) (madeW.f cl (k + 1) s a0 a1) := by
  intro s a0 a1 k
  have ih0 := madeW.mono_l cl k
  unfold madeW.f
  repeat' first
   | (with_reducible exact ih0 _ _ _ _ _ _ _ _)
   | (with_reducible exact impl_AreGloves.mono _ _ _)
   | (with_reducible exact LeO.refl _)
   | (with_reducible exact LeO.none _)
   | (with_reducible refine LeO.ite ?_ ?_)
   | (with_reducible refine LeO.bind ?_ (fun _ => ?_))
   | exact ih0 _ _ _ _ _ _ _ _
   | exact impl_AreGloves.mono _ _ _
   | exact LeO.none _
   | refine LeO.ite ?_ ?_
   | refine LeO.bind ?_ (fun _ => ?_)
def madeW.T8 : Bool × List (List Nat × List Nat) := (true, [([], []), ([0], [0]), ([], []), ([2], [2]), ([1, 3], [1, 3]), ([], []), ([5], [5]), ([], []), ([7], [7]), ([6, 8, 4], [6, 8]), ([0, 1, 2, 3, 4, 5, 6], []), ([10, 4, 9, 0, 1, 2, 3, 4, 5, 6], [4, 10]), ([0, 1, 2, 3, 4, 5, 6, 7, 8, 9, 10, 11], []), ([12, 9, 11, 0, 1, 2, 3, 4, 5, 6, 7, 8, 9, 10, 11], [9, 12])])
def madeW.B8 : List Nat := [0, 1, 0, 4, 15, 0, 32, 0, 128, 511, 127, 2047, 4095, 8191]
theorem madeW.tab8 : rtab .any (opsOf Try.f63 8) = madeW.T8 := by kernel_rfl
theorem madeW.bits8 : waitsOk madeW.T8.2 madeW.B8 = true := by kernel_rfl
set_option maxHeartbeats 8000000 in
set_option maxRecDepth 100000 in
theorem madeW.calls (k : Nat) (A0_0 : Option Addr) (c0_0 : Nat) (l0_0 : List Int) (A0_1 : Option Addr) (c0_1 : Nat) (l0_1 : List Int)  (r1 : List Int) (r2 : List Int) (r3 : Bool) (w : World) (cl : Int → Int → Int → Option (Int × Int × Int)) (s0 : Int) (bi bb : Nat) (St : World → Prop) (hSt0 : St w) (hStm : ∀ W W', St W → SameButW w.heap.size bi W W' → St W') (hC0 : ∀ W, St W → Kd.C (Kd.int .i64) W A0_0 l0_0.length l0_0) (hc0_0 : l0_0.length ≤ c0_0) (hC1 : ∀ W, St W → Kd.C (Kd.int .i64) W A0_1 l0_1.length l0_1) (hc0_1 : l0_1.length ≤ c0_1)
    (hcell : w.cell? ⟨bi, 0, none⟩ = some (.int .i64 s0)) (HCL : ∀ (s x y a b s' : Int) (W : World), cl s x y = some (a, b, s') → W.cell? ⟨bi, 0, none⟩ = some (.int .i64 s) → W.frozen? ⟨bi, 0, none⟩ = false → St W → Calls Try.prog 78 #[.int .i64 x, .int .i64 y, .pointer (some ⟨bi, 0, none⟩)] W fun e W' => e = .returned (.tuple #[.int .i64 a, .int .i64 b]) ∧ ∃ nd, W' = (W.setCell ⟨bi, 0, none⟩ (.int .i64 s')).drewN nd) (hfz : w.frozen? ⟨bi, 0, none⟩ = false)
    (h : madeW.f cl k s0 l0_0 l0_1 = some (r1, r2, r3)) :
  Calls Try.prog 63 #[.agg #[.slice A0_0 l0_0.length c0_0, .slice A0_1 l0_1.length c0_1], .func (.func 78) #[] #[.pointer (some ⟨bi, 0, none⟩)]] w fun e w' => ∃ wq : World, (∃ st, ELW w bi St wq st) ∧ ∃ v0_ v1_ : Value, e = .returned (.tuple #[.agg #[v0_, v1_], .bool r3]) ∧ Kd.R (Kd.int .i64) 3 w' wq.heap.size (fun k_ => some k_ ≠ (v1_ : Value).ownBlock) v0_ r1 ∧ Kd.R (Kd.int .i64) 3 w' wq.heap.size (fun k_ => some k_ ≠ (v0_ : Value).ownBlock) v1_ r2 ∧ Below wq.heap.size wq w' := by
 have hu28 := Try.underlying28
 have HEL := Aside0.mk (ELW.refl hSt0 hcell hfz)
 have hbi := block_of_cellbW hcell
 have HR0_0 := Aside0.mk (hC0 w hSt0)
 have HC0_0 := Aside0.mk hc0_0
 clear hc0_0
 have HR0_1 := Aside0.mk (hC1 w hSt0)
 have HC0_1 := Aside0.mk hc0_1
 clear hc0_1
 have HB := Aside0.mk (Below.refl w.heap.size w)
 have H : ((impl_AreGloves.f k l0_0 l0_1).bind fun t157 => (if t157 = true then (madeW.l0 cl k s0 l0_0 (l0_0.length : Int) 0 l0_0 l0_1 ([] : List Int) ([] : List Int)) else (some (([] : List Int), ([] : List Int), false)))) = some (r1, r2, r3) := h
 clear h
 replace H := Option.bind_eq_some_iff.mp H
 obtain ⟨t157, A30, H⟩ := H
 replace H : (if t157 = true then (madeW.l0 cl k s0 l0_0 (l0_0.length : Int) 0 l0_0 l0_1 ([] : List Int) ([] : List Int)) else (some (([] : List Int), ([] : List Int), false))) = some (r1, r2, r3) := H
 have A3 := Aside0.mk A30
 clear A30
 by_cases c4 : t157 = true
 ·subst c4
  have H1 : (madeW.l0 cl k s0 l0_0 (l0_0.length : Int) 0 l0_0 l0_1 ([] : List Int) ([] : List Int)) = some (r1, r2, r3) := by rw [if_pos rfl] at H; exact H
  clear H
  have H := H1
  clear H1
  have H' := Aside0.mk H
  clear H
  go_enter Try.func63, Try.ntmps63
  go_wp2_with (first | ((with_reducible refine gate_dst (N := 2) rfl ?_); refine box_event ?hg (N := 2) ?hd (cs := #[.slice A0_0 l0_0.length c0_0, .slice A0_1 l0_1.length c0_1]) (t := 28) ?hr ?_; (case hd => rfl); (case hg => rfl); (case hr => first | (go_simp; done) | (go_simp; rfl)); intro gb155 hg w5 hbox hb; have n0_ := Aside0.mk (below_step (by repeat (first | (with_reducible first | exact HB.1 | apply below_alloc | apply pw_below_drewN | apply below_drew1) | exact HB.1)) hb); have n1_ := Aside0.mk (hbox); have n2_ := Aside0.mk ((by rw [hg]; exact (below_size (by repeat (first | (with_reducible first | exact HB.1 | apply below_alloc | apply pw_below_drewN | apply below_drew1) | exact HB.1))) : w.heap.size ≤ gb155)); have n3_ := Aside0.mk ((by rw [hg]; exact (below_size (by repeat (first | (with_reducible first | exact HB.1 | apply below_alloc | apply pw_below_drewN | apply below_drew1) | exact HB.1))) : w.heap.size ≤ gb155)); clear HB; have HB := n0_; have BK155 := n1_; have GW155 := n2_; have GE155 := n3_; clear n0_ n1_ n2_ n3_; clear hb hbox hg) | ((with_reducible refine gate_dst (N := 4) rfl ?_); refine box_event ?hg (N := 4) ?hd (cs := #[.slice none 0 0, .slice none 0 0]) (t := 28) ?hr ?_; (case hd => rfl); (case hg => rfl); (case hr => first | (go_simp; done) | (go_simp; rfl)); intro gb156 hg w6 hbox hb; have n0_ := Aside0.mk (blk_below (g := gb155) (o := .cells #[.slice A0_0 l0_0.length c0_0, .slice A0_1 l0_1.length c0_1] 28 (0, 0)) (by (with_reducible repeat (first | refine blk_drewN ?_ _ | refine blk_drew ?_ | refine blk_alloc ?_ _)); exact BK155.1) hb); have n1_ := Aside0.mk (below_step (by repeat (first | (with_reducible first | exact HB.1 | apply below_alloc | apply pw_below_drewN | apply below_drew1 | refine below_set ?_ GE155.1) | exact HB.1)) hb); have n2_ := Aside0.mk (hbox); have n3_ := Aside0.mk ((by rw [hg]; exact (below_size (by repeat (first | (with_reducible first | exact HB.1 | apply below_alloc | apply pw_below_drewN | apply below_drew1 | refine below_set ?_ GE155.1) | exact HB.1))) : w.heap.size ≤ gb156)); have n4_ := Aside0.mk ((by rw [hg]; exact (below_size (by repeat (first | (with_reducible first | exact HB.1 | apply below_alloc | apply pw_below_drewN | apply below_drew1 | refine below_set ?_ GE155.1) | exact HB.1))) : w.heap.size ≤ gb156)); have n5_ := Aside0.mk ((by rw [hg]; exact Nat.ne_of_lt (blk_lt (g := gb155) (o := .cells #[.slice A0_0 l0_0.length c0_0, .slice A0_1 l0_1.length c0_1] 28 (0, 0)) (by (with_reducible repeat (first | refine blk_drewN ?_ _ | refine blk_drew ?_ | refine blk_alloc ?_ _)); exact BK155.1)) : gb155 ≠ gb156)); have n6_ := Aside0.mk ((by rw [hg]; exact Nat.ne_of_gt (blk_lt (g := gb155) (o := .cells #[.slice A0_0 l0_0.length c0_0, .slice A0_1 l0_1.length c0_1] 28 (0, 0)) (by (with_reducible repeat (first | refine blk_drewN ?_ _ | refine blk_drew ?_ | refine blk_alloc ?_ _)); exact BK155.1)) : gb156 ≠ gb155)); clear BK155; clear HB; have BK155 := n0_; have HB := n1_; have BK156 := n2_; have GW156 := n3_; have GE156 := n4_; have NB155_156 := n5_; have NB156_155 := n6_; clear n0_ n1_ n2_ n3_ n4_ n5_ n6_; clear hb hbox hg; have hnb7 := NB155_156.1; have hnc7 := NB156_155.1; have hcz8_0 : w6.cell? ⟨gb155, 0, none⟩ = some (.slice A0_0 l0_0.length c0_0) := (blk_cell BK155.1 0).trans rfl; have hcz8_1 : w6.cell? ⟨gb155, 1, none⟩ = some (.slice A0_1 l0_1.length c0_1) := (blk_cell BK155.1 1).trans rfl; have hfz8_0 := blk_frozen BK155.1 0; have hfz8_1 := blk_frozen BK155.1 1) | ((with_reducible refine gate_callee (f := 48) rfl ?_); refine goesL_ (some 12) rfl rfl Try.func48 (by kernel_rfl) rfl #[.agg #[.slice A0_0 l0_0.length c0_0, .slice A0_1 l0_1.length c0_1]] rfl (by (try simp only [List.map_toArray, List.map_cons, List.map_nil]); first | done | rfl | (simp only [List.length_drop, List.length_take]; rfl)) ?_; (with_reducible refine (impl_AreGloves.calls k _ _ l0_0 _ _ l0_1 true _ ?side1 ?side2 ?side3 ?side4 A3.1).mono ?_); (case side1 => repeat (first | exact (Kd.C_below HR0_0.1 HB.1) | (with_reducible refine Kd.C_alloc ?_ _) | (with_reducible refine Kd.C_drewN ?_ _) | (with_reducible refine Kd.C_drew ?_))); (case side2 => exact HC0_0.1); (case side3 => repeat (first | exact (Kd.C_below HR0_1.1 HB.1) | (with_reducible refine Kd.C_alloc ?_ _) | (with_reducible refine Kd.C_drewN ?_ _) | (with_reducible refine Kd.C_drew ?_))); (case side4 => exact HC0_1.1); rintro e w9 ⟨rfl, hb⟩; refine ⟨_, rfl, ?_⟩; have n0_ := Aside0.mk (blk_below (g := gb155) (o := .cells #[.slice A0_0 l0_0.length c0_0, .slice A0_1 l0_1.length c0_1] 28 (0, 0)) (by (with_reducible repeat (first | refine blk_drewN ?_ _ | refine blk_drew ?_ | refine blk_alloc ?_ _)); exact BK155.1) hb); have n1_ := Aside0.mk (blk_below (g := gb156) (o := .cells #[.slice none 0 0, .slice none 0 0] 28 (0, 0)) (by (with_reducible repeat (first | refine blk_drewN ?_ _ | refine blk_drew ?_ | refine blk_alloc ?_ _)); exact BK156.1) hb); have n2_ := Aside0.mk (below_step (by repeat (first | (with_reducible first | exact HB.1 | apply below_alloc | apply pw_below_drewN | apply below_drew1 | refine below_set ?_ GE155.1 | refine below_set ?_ GE156.1) | exact HB.1)) hb); clear BK155; clear BK156; clear HB; have BK155 := n0_; have BK156 := n1_; have HB := n2_; clear n0_ n1_ n2_; (try clear hb); (try clear hb2); (try clear hk); (try clear hi)) | ((with_reducible refine gate_dst (N := 6) rfl ?_); refine box_event ?hg (N := 6) ?hd (cs := #[.slice none 0 0, .slice none 0 0]) (t := 28) ?hr ?_; (case hd => rfl); (case hg => rfl); (case hr => first | (go_simp; done) | (go_simp; rfl)); intro gb158 hg w10 hbox hb; have n0_ := Aside0.mk (blk_below (g := gb155) (o := .cells #[.slice A0_0 l0_0.length c0_0, .slice A0_1 l0_1.length c0_1] 28 (0, 0)) (by (with_reducible repeat (first | refine blk_drewN ?_ _ | refine blk_drew ?_ | refine blk_alloc ?_ _)); exact BK155.1) hb); have n1_ := Aside0.mk (blk_below (g := gb156) (o := .cells #[.slice none 0 0, .slice none 0 0] 28 (0, 0)) (by (with_reducible repeat (first | refine blk_drewN ?_ _ | refine blk_drew ?_ | refine blk_alloc ?_ _)); exact BK156.1) hb); have n2_ := Aside0.mk (below_step (by repeat (first | (with_reducible first | exact HB.1 | apply below_alloc | apply pw_below_drewN | apply below_drew1 | refine below_set ?_ GE155.1 | refine below_set ?_ GE156.1) | exact HB.1)) hb); have n3_ := Aside0.mk (hbox); have n4_ := Aside0.mk ((by rw [hg]; exact (below_size (by repeat (first | (with_reducible first | exact HB.1 | apply below_alloc | apply pw_below_drewN | apply below_drew1 | refine below_set ?_ GE155.1 | refine below_set ?_ GE156.1) | exact HB.1))) : w.heap.size ≤ gb158)); have n5_ := Aside0.mk ((by rw [hg]; exact (below_size (by repeat (first | (with_reducible first | exact HB.1 | apply below_alloc | apply pw_below_drewN | apply below_drew1 | refine below_set ?_ GE155.1 | refine below_set ?_ GE156.1) | exact HB.1))) : w.heap.size ≤ gb158)); have n6_ := Aside0.mk ((by rw [hg]; exact Nat.ne_of_lt (blk_lt (g := gb155) (o := .cells #[.slice A0_0 l0_0.length c0_0, .slice A0_1 l0_1.length c0_1] 28 (0, 0)) (by (with_reducible repeat (first | refine blk_drewN ?_ _ | refine blk_drew ?_ | refine blk_alloc ?_ _)); exact BK155.1)) : gb155 ≠ gb158)); have n7_ := Aside0.mk ((by rw [hg]; exact Nat.ne_of_gt (blk_lt (g := gb155) (o := .cells #[.slice A0_0 l0_0.length c0_0, .slice A0_1 l0_1.length c0_1] 28 (0, 0)) (by (with_reducible repeat (first | refine blk_drewN ?_ _ | refine blk_drew ?_ | refine blk_alloc ?_ _)); exact BK155.1)) : gb158 ≠ gb155)); have n8_ := Aside0.mk ((by rw [hg]; exact Nat.ne_of_lt (blk_lt (g := gb156) (o := .cells #[.slice none 0 0, .slice none 0 0] 28 (0, 0)) (by (with_reducible repeat (first | refine blk_drewN ?_ _ | refine blk_drew ?_ | refine blk_alloc ?_ _)); exact BK156.1)) : gb156 ≠ gb158)); have n9_ := Aside0.mk ((by rw [hg]; exact Nat.ne_of_gt (blk_lt (g := gb156) (o := .cells #[.slice none 0 0, .slice none 0 0] 28 (0, 0)) (by (with_reducible repeat (first | refine blk_drewN ?_ _ | refine blk_drew ?_ | refine blk_alloc ?_ _)); exact BK156.1)) : gb158 ≠ gb156)); clear BK155; clear BK156; clear HB; have BK155 := n0_; have BK156 := n1_; have HB := n2_; have BK158 := n3_; have GW158 := n4_; have GE158 := n5_; have NB155_158 := n6_; have NB158_155 := n7_; have NB156_158 := n8_; have NB158_156 := n9_; clear n0_ n1_ n2_ n3_ n4_ n5_ n6_ n7_ n8_ n9_; clear hb hbox hg; have hnb11 := NB158_155.1; have hnc11 := NB155_158.1; have hnb12 := NB158_156.1; have hnc12 := NB156_158.1; have hcz13_0 : w10.cell? ⟨gb158, 0, none⟩ = some (.slice none 0 0) := (blk_cell BK158.1 0).trans rfl; have hcz13_1 : w10.cell? ⟨gb158, 1, none⟩ = some (.slice none 0 0) := (blk_cell BK158.1 1).trans rfl; have hfz13_0 := blk_frozen BK158.1 0; have hfz13_1 := blk_frozen BK158.1 1; have hcz14_0 : w10.cell? ⟨gb155, 0, none⟩ = some (.slice A0_0 l0_0.length c0_0) := (blk_cell BK155.1 0).trans rfl; have hcz14_1 : w10.cell? ⟨gb155, 1, none⟩ = some (.slice A0_1 l0_1.length c0_1) := (blk_cell BK155.1 1).trans rfl; have hfz14_0 := blk_frozen BK155.1 0; have hfz14_1 := blk_frozen BK155.1 1))
  go_loopg [19] k (fun kq v19 w' => ∃ (wq : World) (st : Int) (x19_1 : Int) (x159000_1 : List Int) (x159001_1 : List Int) (u159000 : Value) (u159001 : Value), v19 = .int .i64 x19_1 ∧ Aside0 (madeW.l0 cl kq st l0_0 (l0_0.length : Int) x19_1 l0_0 l0_1 x159000_1 x159001_1 = some (r1, r2, r3)) ∧ Aside0 (kq ≤ k) ∧ Aside0 (Kd.R (Kd.int .i64) 3 w' wq.heap.size (fun k_ => some k_ ≠ (u159001 : Value).ownBlock) u159000 x159000_1) ∧ Aside0 (Kd.R (Kd.int .i64) 3 w' wq.heap.size (fun k_ => some k_ ≠ (u159000 : Value).ownBlock) u159001 x159001_1) ∧ Aside0 (w'.heap[gb155]? = some (.cells #[(.slice A0_0 l0_0.length c0_0), (.slice A0_1 l0_1.length c0_1)] 28 (0, 0))) ∧ Aside0 (w'.heap[gb156]? = some (.cells #[(.slice none 0 0), (.slice none 0 0)] 28 (0, 0))) ∧ Aside0 (w'.heap[gb158]? = some (.cells #[u159000, u159001] 28 (0, 0))) ∧ Aside0 (ELW w bi St wq st) ∧ Aside0 (Below wq.heap.size wq w'))
  case atStart => exact ⟨w, s0, (0), (([] : List Int)), (([] : List Int)), (.slice none 0 0), (.slice none 0 0), (by first | rfl | (simp; done) | (simp [*]; done) | (simp [Go.IntWalk.i64_left]; done)), H', ⟨Nat.le_refl _⟩, ⟨by first | exact Kd.R_nil _ _ _ _ _ | exact Kd.N_nil _ _ _ _ _ | exact Kd.V_nil _ _ _ _ _ | exact Kd.Q_nil _ _ _ _ _ | exact Kd.S_nil _ _ _ _ _⟩, ⟨by first | exact Kd.R_nil _ _ _ _ _ | exact Kd.N_nil _ _ _ _ _ | exact Kd.V_nil _ _ _ _ _ | exact Kd.Q_nil _ _ _ _ _ | exact Kd.S_nil _ _ _ _ _⟩, ⟨by (with_reducible repeat (first | refine blk_drewN ?_ _ | refine blk_drew ?_ | refine blk_alloc ?_ _)); refine blk_far ?_ NB155_158.1 _; (with_reducible repeat (first | refine blk_drewN ?_ _ | refine blk_drew ?_ | refine blk_alloc ?_ _)); refine blk_far ?_ NB155_158.1 _; (with_reducible repeat (first | refine blk_drewN ?_ _ | refine blk_drew ?_ | refine blk_alloc ?_ _)); exact BK155.1⟩, ⟨by (with_reducible repeat (first | refine blk_drewN ?_ _ | refine blk_drew ?_ | refine blk_alloc ?_ _)); refine blk_far ?_ NB156_158.1 _; (with_reducible repeat (first | refine blk_drewN ?_ _ | refine blk_drew ?_ | refine blk_alloc ?_ _)); refine blk_far ?_ NB156_158.1 _; (with_reducible repeat (first | refine blk_drewN ?_ _ | refine blk_drew ?_ | refine blk_alloc ?_ _)); exact BK156.1⟩, ⟨by (with_reducible repeat (first | refine blk_drewN ?_ _ | refine blk_drew ?_ | refine blk_alloc ?_ _)); refine blk_put (cs := #[.slice none 0 0, .slice none 0 0]) ?_ 1 _ rfl; (with_reducible repeat (first | refine blk_drewN ?_ _ | refine blk_drew ?_ | refine blk_alloc ?_ _)); refine blk_put (cs := #[.slice none 0 0, .slice none 0 0]) ?_ 0 _ rfl; (with_reducible repeat (first | refine blk_drewN ?_ _ | refine blk_drew ?_ | refine blk_alloc ?_ _)); exact BK158.1⟩, HEL, ⟨by repeat (first | (with_reducible first | exact HB.1 | apply below_alloc | apply pw_below_drewN | apply below_drew1 | refine below_set ?_ GE155.1 | refine below_set ?_ GE156.1 | refine below_set ?_ GE158.1) | exact HB.1)⟩⟩
  case round =>
   clear H'
   try clear c1
   try clear p2
   try clear c4
   try clear c7
   try clear c11
   try clear c12
   try clear hcz13_0
   try clear hcz13_1
   try clear hcz14_0
   try clear hcz14_1
   try clear hcz8_0
   try clear hcz8_1
   try clear hfz13_0
   try clear hfz13_1
   try clear hfz14_0
   try clear hfz14_1
   try clear hfz8_0
   try clear hfz8_1
   obtain ⟨wq, st, x19_1, x159000_1, x159001_1, u159000, u159001, rfl, HA, HK1, Q159_0, Q159_1, BK155, BK156, BK158, HEL2, HB⟩ := hrel
   clear HEL
   have HEL := HEL2
   clear HEL2
   clear HR0_0 HR0_1
   have HR0_0 := Aside0.mk (hC0 wq HEL.1.st)
   have HR0_1 := Aside0.mk (hC1 wq HEL.1.st)
   have hszq := HEL.1.size
   have GE155q : Aside0 (wq.heap.size ≤ gb155) := ⟨by rw [hszq]; exact GE155.1⟩
   clear GE155
   have GE155 := GE155q
   clear GE155q
   have GE156q : Aside0 (wq.heap.size ≤ gb156) := ⟨by rw [hszq]; exact GE156.1⟩
   clear GE156
   have GE156 := GE156q
   clear GE156q
   have GE158q : Aside0 (wq.heap.size ≤ gb158) := ⟨by rw [hszq]; exact GE158.1⟩
   clear GE158
   have GE158 := GE158q
   clear GE158q
   obtain ⟨w, hwq⟩ : ∃ x, x = wq := ⟨_, rfl⟩
   subst hwq
   clear hszq
   cases gk with
   | zero => exact absurd HA.1 (by simp [madeW.l0])
   | succ k1 =>
    have H := HA.1
    clear HA
    simp only [madeW.l0] at H
    by_cases c15 : x19_1 < (l0_0.length : Int)
    ·rw [if_pos c15] at H
     have c15b0 : decide (x19_1 < (l0_0.length : Int)) = true := decide_eq_true c15
     clear c15
     by_cases c16 : 0 ≤ x19_1
     ·rw [if_pos c16] at H
      have c16b0 : decide (0 ≤ x19_1) = true := decide_eq_true c16
      clear c16
      by_cases c17 : x19_1 < (l0_0.length : Int)
      ·rw [if_pos c17] at H
       have c17b0 : decide (x19_1 < (l0_0.length : Int)) = true := decide_eq_true c17
       clear c17
       by_cases c18 : x19_1 < (l0_1.length : Int)
       ·rw [if_pos c18] at H
        have c18b0 : decide (x19_1 < (l0_1.length : Int)) = true := decide_eq_true c18
        clear c18
        replace H := Option.bind_eq_some_iff.mp H
        obtain ⟨⟨t161, t162, ts⟩, A190, H⟩ := H
        replace H : ((some (([t161] : List Int) : List Int)).bind fun y163 => (if x159000_1.length + y163.length < 17592186044416 then ((some (([t162] : List Int) : List Int)).bind fun y169 => (if x159001_1.length + y169.length < 17592186044416 then (madeW.l0 cl k1 ts l0_0 (l0_0.length : Int) (wrap64 (x19_1 + 1)) l0_0 l0_1 (x159000_1 ++ y163) (x159001_1 ++ y169)) else (none))) else (none))) = some (r1, r2, r3) := H
        have A19 := Aside0.mk A190
        clear A190
        obtain ⟨y163, hy163⟩ : ∃ y_ : List Int, y_ = (([t161] : List Int)) := ⟨_, rfl⟩
        replace H : (if x159000_1.length + y163.length < 17592186044416 then ((some (([t162] : List Int) : List Int)).bind fun y169 => (if x159001_1.length + y169.length < 17592186044416 then (madeW.l0 cl k1 ts l0_0 (l0_0.length : Int) (wrap64 (x19_1 + 1)) l0_0 l0_1 (x159000_1 ++ y163) (x159001_1 ++ y169)) else (none))) else (none)) = some (r1, r2, r3) := by first | (rw [hy163]; with_reducible exact H) | (have H2_ := (Option.bind_some _ _).symm.trans H; rw [hy163]; with_reducible exact H2_) | (have H2_ := (Option.bind_some _ _).symm.trans H; with_reducible exact H2_) | with_reducible exact H | (rw [hy163]; exact H) | exact H
        have Ny163 := Aside0.mk hy163
        clear hy163
        by_cases c20 : x159000_1.length + y163.length < 17592186044416
        ·rw [if_pos c20] at H
         have LMc20 := Aside0.mk c20
         clear c20
         obtain ⟨y166, hy166⟩ : ∃ y_ : List Int, y_ = (x159000_1 ++ y163) := ⟨_, rfl⟩
         replace H : ((some (([t162] : List Int) : List Int)).bind fun y169 => (if x159001_1.length + y169.length < 17592186044416 then (madeW.l0 cl k1 ts l0_0 (l0_0.length : Int) (wrap64 (x19_1 + 1)) l0_0 l0_1 y166 (x159001_1 ++ y169)) else (none))) = some (r1, r2, r3) := by first | (rw [hy166]; with_reducible exact H) | (have H2_ := (Option.bind_some _ _).symm.trans H; rw [hy166]; with_reducible exact H2_) | (have H2_ := (Option.bind_some _ _).symm.trans H; with_reducible exact H2_) | with_reducible exact H | (rw [hy166]; exact H) | exact H
         have Ny166 := Aside0.mk hy166
         clear hy166
         obtain ⟨y169, hy169⟩ : ∃ y_ : List Int, y_ = (([t162] : List Int)) := ⟨_, rfl⟩
         replace H : (if x159001_1.length + y169.length < 17592186044416 then (madeW.l0 cl k1 ts l0_0 (l0_0.length : Int) (wrap64 (x19_1 + 1)) l0_0 l0_1 y166 (x159001_1 ++ y169)) else (none)) = some (r1, r2, r3) := by first | (rw [hy169]; with_reducible exact H) | (have H2_ := (Option.bind_some _ _).symm.trans H; rw [hy169]; with_reducible exact H2_) | (have H2_ := (Option.bind_some _ _).symm.trans H; with_reducible exact H2_) | with_reducible exact H | (rw [hy169]; exact H) | exact H
         have Ny169 := Aside0.mk hy169
         clear hy169
         by_cases c21 : x159001_1.length + y169.length < 17592186044416
         ·rw [if_pos c21] at H
          have LMc21 := Aside0.mk c21
          clear c21
          obtain ⟨y172, hy172⟩ : ∃ y_ : List Int, y_ = (x159001_1 ++ y169) := ⟨_, rfl⟩
          replace H : (madeW.l0 cl k1 ts l0_0 (l0_0.length : Int) (wrap64 (x19_1 + 1)) l0_0 l0_1 y166 y172) = some (r1, r2, r3) := by first | (rw [hy172]; with_reducible exact H) | (have H2_ := (Option.bind_some _ _).symm.trans H; rw [hy172]; with_reducible exact H2_) | (have H2_ := (Option.bind_some _ _).symm.trans H; with_reducible exact H2_) | with_reducible exact H | (rw [hy172]; exact H) | exact H
          have Ny172 := Aside0.mk hy172
          clear hy172
          have H' := Aside0.mk H
          clear H
          have p159 : 0 ≤ (x19_1 : Int) := of_decide_eq_true (by first | (with_reducible assumption) | assumption)
          have q159 : x19_1 < (l0_0.length : Int) := of_decide_eq_true (by first | (with_reducible assumption) | assumption)
          obtain ⟨ad159, e159, hx159_0⟩ := Kd.at_int HR0_0.1 x19_1 p159 q159
          cases e159
          replace hx159_0 := (HB.1.cell (World.block_lt_of_cell? w _ hx159_0)).trans hx159_0
          replace p159 := eq_true p159
          replace q159 := eq_true q159
          have hnb22 := NB155_156.1
          have hnc22 := NB156_155.1
          have hnb23 := NB155_158.1
          have hnc23 := NB158_155.1
          have hcz24_0 : wr.cell? ⟨gb155, 0, none⟩ = some (.slice (some ad159) l0_0.length c0_0) := (blk_cell BK155.1 0).trans rfl
          have hcz24_1 : wr.cell? ⟨gb155, 1, none⟩ = some (.slice A0_1 l0_1.length c0_1) := (blk_cell BK155.1 1).trans rfl
          have hfz24_0 := blk_frozen BK155.1 0
          have hfz24_1 := blk_frozen BK155.1 1
          have p160 : 0 ≤ (x19_1 : Int) := of_decide_eq_true (by first | (with_reducible assumption) | assumption)
          have q160 : x19_1 < (l0_1.length : Int) := of_decide_eq_true (by first | (with_reducible assumption) | assumption)
          obtain ⟨ad160, e160, hx160_0⟩ := Kd.at_int HR0_1.1 x19_1 p160 q160
          cases e160
          replace hx160_0 := (HB.1.cell (World.block_lt_of_cell? w _ hx160_0)).trans hx160_0
          replace p160 := eq_true p160
          replace q160 := eq_true q160
          try go_wp2_with (first | (go_at_call 78; refine (HCL st (rd l0_0 x19_1) (rd l0_1 x19_1) t161 t162 ts _ A19.1 (HEL.1.cellAt hbi HB.1) (HEL.1.frozenAt hbi HB.1) (HEL.1.stAt hStm HB.1)).mono ?_; rintro e wr ⟨rfl, nd, hwn⟩; have hbw : bi < w.heap.size := (HEL.1.size).symm ▸ hbi; obtain ⟨w, hw2⟩ : ∃ x, x = w.setCell ⟨bi, 0, none⟩ (.int .i64 ts) := ⟨_, rfl⟩; have hsz2 := size_of_setW hw2; have n0_ := Aside0.mk (R_biW Q159_0.1 hbw hsz2 hwn); have n1_ := Aside0.mk (R_biW Q159_1.1 hbw hsz2 hwn); have n2_ := Aside0.mk (blk_biW BK155.1 (Nat.ne_of_gt (Nat.lt_of_lt_of_le hbw GE155.1)) hwn); have n3_ := Aside0.mk (blk_biW BK156.1 (Nat.ne_of_gt (Nat.lt_of_lt_of_le hbw GE156.1)) hwn); have n4_ := Aside0.mk (blk_biW BK158.1 (Nat.ne_of_gt (Nat.lt_of_lt_of_le hbw GE158.1)) hwn); have n5_ := Aside0.mk (below_biW HB.1 hbw hw2 hwn); have n6_ := Aside0.mk (HEL.1.next hbi hStm hw2); have n7_ := Aside0.mk (Nat.le_trans (Nat.le_of_eq hsz2) GE155.1); have n8_ := Aside0.mk (Nat.le_trans (Nat.le_of_eq hsz2) GE156.1); have n9_ := Aside0.mk (Nat.le_trans (Nat.le_of_eq hsz2) GE158.1); clear Q159_0 Q159_1 BK155 BK156 BK158 HB HEL GE155 GE156 GE158; have Q159_0 := n0_; have Q159_1 := n1_; have BK155 := n2_; have BK156 := n3_; have BK158 := n4_; have HB := n5_; have HEL := n6_; have GE155 := n7_; have GE156 := n8_; have GE158 := n9_; clear n0_ n1_ n2_ n3_ n4_ n5_ n6_ n7_ n8_ n9_ hsz2 hwn hw2; obtain ⟨Ao25, co25, eo25⟩ := Kd.R_slice Q159_0.1; subst eo25; obtain ⟨Ao26, co26, eo26⟩ := Kd.R_slice Q159_1.1; subst eo26))
          have n0_ := Aside0.mk (Kd.R_drew Q159_0.1)
          have n1_ := Aside0.mk (Kd.R_drew Q159_1.1)
          have n2_ := Aside0.mk (blk_drew BK155.1)
          have n3_ := Aside0.mk (blk_drew BK156.1)
          have n4_ := Aside0.mk (blk_drew BK158.1)
          have n5_ := Aside0.mk (below_drew1 HB.1)
          clear Q159_0
          clear Q159_1
          clear BK155
          clear BK156
          clear BK158
          clear HB
          have Q159_0 := n0_
          have Q159_1 := n1_
          have BK155 := n2_
          have BK156 := n3_
          have BK158 := n4_
          have HB := n5_
          clear n0_ n1_ n2_ n3_ n4_ n5_
          refine start_ (n := 14) (S := fun w' => w'.cell? ⟨gb158, 0, none⟩ = some (.slice Ao25 x159000_1.length co25) ∧ w'.cell? ⟨gb158, 1, none⟩ = some (.slice Ao26 x159001_1.length co26)) (ds := [11, 13]) #[false, false, false, false, false, false, false, false, false, false, false, false, false, false] (by kernel_rfl) rfl rfl ⟨(blk_cell BK158.1 0).trans rfl, (blk_cell BK158.1 1).trans rfl⟩ (fun hHeld => ?_); refine with_tabW madeW.tab8 madeW.bits8 (fun HT_ HW_ => ?_)
          generalize wr.drew = w27 at Q159_0 Q159_1 BK155 BK156 BK158 HB hHeld ⊢
          refine pure_ (i := 0) (N := some 35) (v := ?_) (a' := ?_) #[true, false, false, false, false, false, false, false, false, false, false, false, false, false] rfl rfl (any_of HT_.1 (by kernel_rfl)) (fun _ _ _ h => h) (Or.inl ⟨by rfl, ?_⟩) ?_ ?_
          rotate_left
          ·intro w'
           go_simp
           with_reducible rfl
          rotate_left
          ·simp only [Act.put, List.setIfInBounds_toArray, List.set_cons_zero, List.set_cons_succ, i64_w, i32_w]
           rfl
          refine pure_ (i := 2) (N := some 37) (v := ?_) (a' := ?_) #[true, false, true, false, false, false, false, false, false, false, false, false, false, false] rfl rfl (any_of HT_.1 (by kernel_rfl)) (fun _ _ _ h => h) (Or.inl ⟨by rfl, ?_⟩) ?_ ?_
          rotate_left
          ·intro w'
           go_simp
           with_reducible rfl
          rotate_left
          ·simp only [Act.put, List.setIfInBounds_toArray, List.set_cons_zero, List.set_cons_succ, i64_w, i32_w]
           rfl
          refine pure_ (i := 5) (N := some 40) (v := ?_) (a' := ?_) #[true, false, true, false, false, true, false, false, false, false, false, false, false, false] rfl rfl (any_of HT_.1 (by kernel_rfl)) (fun _ _ _ h => h) (Or.inl ⟨by rfl, ?_⟩) ?_ ?_
          rotate_left
          ·intro w'
           go_simp
           with_reducible rfl
          rotate_left
          ·simp only [Act.put, List.setIfInBounds_toArray, List.set_cons_zero, List.set_cons_succ, i64_w, i32_w]
           rfl
          refine pure_ (i := 7) (N := some 42) (v := ?_) (a' := ?_) #[true, false, true, false, false, true, false, true, false, false, false, false, false, false] rfl rfl (any_of HT_.1 (by kernel_rfl)) (fun _ _ _ h => h) (Or.inl ⟨by rfl, ?_⟩) ?_ ?_
          rotate_left
          ·intro w'
           go_simp
           with_reducible rfl
          rotate_left
          ·simp only [Act.put, List.setIfInBounds_toArray, List.set_cons_zero, List.set_cons_succ, i64_w, i32_w]
           rfl
          refine take_ (i := 1) (N := some 36) (v := ?_) (a' := ?_) #[true, true, true, false, false, true, false, true, false, false, false, false, false, false] rfl rfl (take_ofW HT_.1 HW_.1 (by kernel_rfl)) (fun _ _ _ h => h) (Or.inl ⟨by rfl, ?_⟩) hHeld ?_ ?_
          rotate_left
          ·rintro w' ⟨s0, s1⟩
           go_simp
           with_reducible rfl
          rotate_left
          ·simp only [Act.put, List.setIfInBounds_toArray, List.set_cons_zero, List.set_cons_succ, i64_w, i32_w]
           rfl
          refine take_ (i := 6) (N := some 41) (v := ?_) (a' := ?_) #[true, true, true, false, false, true, true, true, false, false, false, false, false, false] rfl rfl (take_ofW HT_.1 HW_.1 (by kernel_rfl)) (fun _ _ _ h => h) (Or.inl ⟨by rfl, ?_⟩) hHeld ?_ ?_
          rotate_left
          ·rintro w' ⟨s0, s1⟩
           go_simp
           with_reducible rfl
          rotate_left
          ·simp only [Act.put, List.setIfInBounds_toArray, List.set_cons_zero, List.set_cons_succ, i64_w, i32_w]
           rfl
          refine join_ (σ := Value × Value × Value) 4 #[true, true, true, true, true, true, true, true, true, false, true, false, false, false] (fun s_ => [(38, s_.1), (39, s_.2.1), (43, s_.2.2), (45, .pointer (some ⟨gb158, 0, none⟩))]) (fun s_ w' => (w'.cell? ⟨gb158, 0, none⟩ = some (.slice Ao25 x159000_1.length co25) ∧ w'.cell? ⟨gb158, 1, none⟩ = some (.slice Ao26 x159001_1.length co26)) ∧ (Kd.R (Kd.int .i64) 3 w' w.heap.size (fun k_ => some k_ ≠ (s_.2.1 : Value).ownBlock ∧ some k_ ≠ (s_.2.2 : Value).ownBlock ∧ some k_ ≠ (.slice Ao26 x159001_1.length co26 : Value).ownBlock) s_.1 y163) ∧ (Kd.R (Kd.int .i64) 3 w' w.heap.size (fun k_ => some k_ ≠ (s_.1 : Value).ownBlock ∧ some k_ ≠ (s_.2.2 : Value).ownBlock ∧ some k_ ≠ (.slice Ao26 x159001_1.length co26 : Value).ownBlock) s_.2.1 y166) ∧ (Kd.R (Kd.int .i64) 3 w' w.heap.size (fun k_ => some k_ ≠ (s_.1 : Value).ownBlock ∧ some k_ ≠ (s_.2.1 : Value).ownBlock ∧ some k_ ≠ (.slice Ao26 x159001_1.length co26 : Value).ownBlock) s_.2.2 y169) ∧ (Kd.R (Kd.int .i64) 3 w' w.heap.size (fun k_ => some k_ ≠ (s_.1 : Value).ownBlock ∧ some k_ ≠ (s_.2.1 : Value).ownBlock ∧ some k_ ≠ (s_.2.2 : Value).ownBlock) (.slice Ao26 x159001_1.length co26) x159001_1) ∧ (w'.heap[gb155]? = some (.cells #[.slice (some ad159) l0_0.length c0_0, .slice (some ad160) l0_1.length c0_1] 28 (0, 0))) ∧ (w'.heap[gb156]? = some (.cells #[.slice none 0 0, .slice none 0 0] 28 (0, 0))) ∧ (w'.heap[gb158]? = some (.cells #[.slice Ao25 x159000_1.length co25, .slice Ao26 x159001_1.length co26] 28 (0, 0))) ∧ (Below w.heap.size w w')) ?_ ?_
          rotate_left
          ·intro hCont
           refine two_ (i := 3) (j := 8) (Ni := some 38) (Nj := some 43) #[true, true, true, true, false, true, true, true, false, false, false, false, false, false] #[true, true, true, false, false, true, true, true, true, false, false, false, false, false] rfl rfl rfl rfl (two_of HT_.1 (by kernel_rfl)) (by decide) (by decide) (fun K hK => ?_) (fun K hK => ?_)
           ·skip
            refine Kd.R_lit_step (Kd.int .i64) _ 3 ?hg (N := 38) ?hd (xs := ([t161] : List Int)) (inner := [.int .i64 t161]) (ok := fun _ => True) (okp := fun _ => True) ?hr ?hp (fun _ hk => hk) trivial (Below.refl _ _) (Nat.le_refl _) (by simp) ?_; (case hd => rfl); (case hg => rfl); (case hr => first | (go_simp; done) | (go_simp; rfl)); (case hp => exact (Reps.one (show Kd.M (Kd.int .i64) _ _ _ t161 [.int .i64 t161] from rfl) (Reps.none _ _)))
            intro v164 w28 ho29 hb hg_ hnew_
            clear hg_ hnew_
            (first | rw [← Ny163.1] at ho29 | (simp only [Int.reduceToNat] at ho29; rw [← Ny163.1] at ho29))
            have n0_ := Aside0.mk (Kd.R_elder' (by (with_reducible repeat (first | apply Kd.R_alloc | apply Kd.R_drewN | apply Kd.R_drew)); exact Q159_0.1) (Kd.R_base ho29) hb)
            have n1_ := Aside0.mk (Kd.R_elder' (by (with_reducible repeat (first | apply Kd.R_alloc | apply Kd.R_drewN | apply Kd.R_drew)); exact Q159_1.1) (Kd.R_base ho29) hb)
            have n2_ := Aside0.mk (Kd.R_lower (Kd.R_new' (Kd.R_new' ho29 (Kd.R_lt (by (with_reducible repeat (first | apply Kd.R_alloc | apply Kd.R_drewN | apply Kd.R_drew)); exact Q159_0.1))) (Kd.R_lt (by (with_reducible repeat (first | apply Kd.R_alloc | apply Kd.R_drewN | apply Kd.R_drew)); exact Q159_1.1))) (below_size (by repeat (first | (with_reducible first | exact HB.1 | apply below_alloc | apply pw_below_drewN | apply below_drew1 | refine below_set ?_ GE155.1 | refine below_set ?_ GE156.1 | refine below_set ?_ GE158.1) | exact HB.1))))
            have n3_ := Aside0.mk (blk_below (g := gb155) (o := .cells #[.slice (some ad159) l0_0.length c0_0, .slice (some ad160) l0_1.length c0_1] 28 (0, 0)) (by (with_reducible repeat (first | refine blk_drewN ?_ _ | refine blk_drew ?_ | refine blk_alloc ?_ _)); exact BK155.1) hb)
            have n4_ := Aside0.mk (blk_below (g := gb156) (o := .cells #[.slice none 0 0, .slice none 0 0] 28 (0, 0)) (by (with_reducible repeat (first | refine blk_drewN ?_ _ | refine blk_drew ?_ | refine blk_alloc ?_ _)); exact BK156.1) hb)
            have n5_ := Aside0.mk (blk_below (g := gb158) (o := .cells #[.slice Ao25 x159000_1.length co25, .slice Ao26 x159001_1.length co26] 28 (0, 0)) (by (with_reducible repeat (first | refine blk_drewN ?_ _ | refine blk_drew ?_ | refine blk_alloc ?_ _)); exact BK158.1) hb)
            have n6_ := Aside0.mk (below_step (by repeat (first | (with_reducible first | exact HB.1 | apply below_alloc | apply pw_below_drewN | apply below_drew1 | refine below_set ?_ GE155.1 | refine below_set ?_ GE156.1 | refine below_set ?_ GE158.1) | exact HB.1)) hb)
            clear Q159_0
            clear Q159_1
            clear BK155
            clear BK156
            clear BK158
            clear HB
            have Q159_0 := n0_
            have Q159_1 := n1_
            have HO165 := n2_
            have BK155 := n3_
            have BK156 := n4_
            have BK158 := n5_
            have HB := n6_
            clear n0_ n1_ n2_ n3_ n4_ n5_ n6_
            clear hb ho29
            obtain ⟨Ao31, co31, eo31⟩ := Kd.R_slice HO165.1
            (first | subst eo31 | (injection eo31 with f1_ f2_ f3_; have f4_ := f1_.symm; have f5_ := f3_.symm; clear f1_ f2_ f3_; subst f4_; subst f5_))
            refine hK.out _ _ ⟨(blk_cell BK158.1 0).trans rfl, (blk_cell BK158.1 1).trans rfl⟩ (fun hHeld => ?_)
            clear hK K
            refine norm_ (a' := ?_) ?_ ?_
            rotate_left
            ·show Act.put _ (some 38) _ = _
             simp only [Act.put, List.setIfInBounds_toArray, List.set_cons_zero, List.set_cons_succ, i64_w, i32_w]
             rfl
            refine two_ (i := 4) (j := 8) (Ni := some 39) (Nj := some 43) #[true, true, true, true, true, true, true, true, false, false, false, false, false, false] #[true, true, true, true, false, true, true, true, true, false, false, false, false, false] rfl rfl rfl rfl (two_of HT_.1 (by kernel_rfl)) (by decide) (by decide) (fun K hK => ?_) (fun K hK => ?_)
            ·skip
             refine Kd.R_append_rows_step (Kd.int .i64) (w0 := w) w.heap.size (by rfl) (.tmp 36) (.tmp 38) 22 3 (.int .i64 0) 8 rfl Try.underlying22 info3 rfl (by decide) (by omega) (.slice Ao25 x159000_1.length co25) x159000_1 y163 _ _ _ (fun k_ => some k_ ≠ (.slice Ao26 x159001_1.length co26 : Value).ownBlock ∧ some k_ ≠ (.slice Ao31 y163.length co31 : Value).ownBlock) (fun _ => False) rfl rfl ?aO ?aR (fun _ _ h => h) (fun _ h => h.elim) ?aF ?aB ?aS ?aL ?_
             (case aR => repeat (first | exact (Kd.R_reads' HO165.1).2.2 | (with_reducible refine Kd.C_alloc ?_ _) | (with_reducible refine Kd.C_drewN ?_ _) | (with_reducible refine Kd.C_drew ?_)))
             (case aB => exact (by repeat (first | (with_reducible first | exact HB.1 | apply below_alloc | apply pw_below_drewN | apply below_drew1 | refine below_set ?_ GE155.1 | refine below_set ?_ GE156.1 | refine below_set ?_ GE158.1) | exact HB.1)))
             (case aF => exact (fun k_ hk => ⟨Kd.fresh' (Kd.R_lt (by (with_reducible repeat (first | apply Kd.R_alloc | apply Kd.R_drewN | apply Kd.R_drew)); exact Q159_1.1)) k_ hk, Kd.fresh' (Kd.R_lt (by (with_reducible repeat (first | apply Kd.R_alloc | apply Kd.R_drewN | apply Kd.R_drew)); exact HO165.1)) k_ hk⟩))
             (case aO => exact (by (with_reducible repeat (first | apply Kd.R_alloc | apply Kd.R_drewN | apply Kd.R_drew)); exact Q159_0.1))
             (case aS => exact (below_size (by repeat (first | (with_reducible first | exact HB.1 | apply below_alloc | apply pw_below_drewN | apply below_drew1 | refine below_set ?_ GE155.1 | refine below_set ?_ GE156.1 | refine below_set ?_ GE158.1) | exact HB.1))))
             (case aL => have := LMc20.1; omega)
             intro v167 w30 ho hb hg hat
             rw [← Ny166.1] at ho
             have n0_ := Aside0.mk (Kd.R_after (ok := (fun k_ => some k_ ≠ (.slice Ao31 y163.length co31 : Value).ownBlock)) (by (with_reducible repeat (first | apply Kd.R_alloc | apply Kd.R_drewN | apply Kd.R_drew)); exact Kd.R_mono Q159_1.1 (fun _ hk => ⟨hk.2, hk.1⟩)) hg hat)
             have n1_ := Aside0.mk (blk_grown (g := gb155) (o := .cells #[.slice (some ad159) l0_0.length c0_0, .slice (some ad160) l0_1.length c0_1] 28 (0, 0)) (by (with_reducible repeat (first | refine blk_drewN ?_ _ | refine blk_drew ?_ | refine blk_alloc ?_ _)); exact BK155.1) hg (Kd.R_ne Q159_0.1 BK155.1 (by decide)))
             have n2_ := Aside0.mk (blk_grown (g := gb156) (o := .cells #[.slice none 0 0, .slice none 0 0] 28 (0, 0)) (by (with_reducible repeat (first | refine blk_drewN ?_ _ | refine blk_drew ?_ | refine blk_alloc ?_ _)); exact BK156.1) hg (Kd.R_ne Q159_0.1 BK156.1 (by decide)))
             have n3_ := Aside0.mk (blk_grown (g := gb158) (o := .cells #[.slice Ao25 x159000_1.length co25, .slice Ao26 x159001_1.length co26] 28 (0, 0)) (by (with_reducible repeat (first | refine blk_drewN ?_ _ | refine blk_drew ?_ | refine blk_alloc ?_ _)); exact BK158.1) hg (Kd.R_ne Q159_0.1 BK158.1 (by decide)))
             have n4_ := Aside0.mk (Kd.R_after (ok := (fun k_ => some k_ ≠ (.slice Ao26 x159001_1.length co26 : Value).ownBlock)) (by (with_reducible repeat (first | apply Kd.R_alloc | apply Kd.R_drewN | apply Kd.R_drew)); exact Kd.R_mono HO165.1 (fun _ hk => ⟨hk.2, hk.1.2⟩)) hg hat)
             have n5_ := Aside0.mk (hb)
             have n6_ := Aside0.mk (ho)
             clear Q159_1
             clear BK155
             clear BK156
             clear BK158
             clear HO165
             clear HB
             clear Q159_0
             have Q159_1 := n0_
             have BK155 := n1_
             have BK156 := n2_
             have BK158 := n3_
             have HO165 := n4_
             have HB := n5_
             have HO168 := n6_
             clear n0_ n1_ n2_ n3_ n4_ n5_ n6_
             clear ho hb hg hat
             refine hK.out _ _ ⟨(blk_cell BK158.1 0).trans rfl, (blk_cell BK158.1 1).trans rfl⟩ (fun hHeld => ?_)
             clear hK K
             refine norm_ (a' := ?_) ?_ ?_
             rotate_left
             ·show Act.put _ (some 39) _ = _
              simp only [Act.put, List.setIfInBounds_toArray, List.set_cons_zero, List.set_cons_succ, i64_w, i32_w]
              rfl
             refine pure_ (i := 10) (N := some 45) (v := ?_) (a' := ?_) #[true, true, true, true, true, true, true, true, false, false, true, false, false, false] rfl rfl (any_of HT_.1 (by kernel_rfl)) (fun _ _ _ h => h) (Or.inl ⟨by rfl, ?_⟩) ?_ ?_
             rotate_left
             ·intro w'
              go_simp
              with_reducible rfl
             rotate_left
             ·simp only [Act.put, List.setIfInBounds_toArray, List.set_cons_zero, List.set_cons_succ, i64_w, i32_w]
              rfl
             refine one_ (i := 8) (N := some 43) #[true, true, true, true, true, true, true, true, true, false, true, false, false, false] rfl rfl (one_of HT_.1 (by kernel_rfl)) (by decide) (fun K hK => ?_)
             refine Kd.R_lit_step (Kd.int .i64) _ 3 ?hg (N := 43) ?hd (xs := ([t162] : List Int)) (inner := [.int .i64 t162]) (ok := fun _ => True) (okp := fun _ => True) ?hr ?hp (fun _ hk => hk) trivial (Below.refl _ _) (Nat.le_refl _) (by simp) ?_; (case hd => rfl); (case hg => rfl); (case hr => first | (go_simp; done) | (go_simp; rfl)); (case hp => exact (Reps.one (show Kd.M (Kd.int .i64) _ _ _ t162 [.int .i64 t162] from rfl) (Reps.none _ _)))
             intro v170 w32 ho33 hb hg_ hnew_
             clear hg_ hnew_
             (first | rw [← Ny169.1] at ho33 | (simp only [Int.reduceToNat] at ho33; rw [← Ny169.1] at ho33))
             have n0_ := Aside0.mk (Kd.R_elder' (by (with_reducible repeat (first | apply Kd.R_alloc | apply Kd.R_drewN | apply Kd.R_drew)); exact Q159_1.1) (Kd.R_base ho33) hb)
             have n1_ := Aside0.mk (Kd.R_elder' (by (with_reducible repeat (first | apply Kd.R_alloc | apply Kd.R_drewN | apply Kd.R_drew)); exact HO165.1) (Kd.R_base ho33) hb)
             have n2_ := Aside0.mk (Kd.R_elder' (by (with_reducible repeat (first | apply Kd.R_alloc | apply Kd.R_drewN | apply Kd.R_drew)); exact HO168.1) (Kd.R_base ho33) hb)
             have n3_ := Aside0.mk (Kd.R_lower (Kd.R_new' (Kd.R_new' (Kd.R_new' ho33 (Kd.R_lt (by (with_reducible repeat (first | apply Kd.R_alloc | apply Kd.R_drewN | apply Kd.R_drew)); exact Q159_1.1))) (Kd.R_lt (by (with_reducible repeat (first | apply Kd.R_alloc | apply Kd.R_drewN | apply Kd.R_drew)); exact HO165.1))) (Kd.R_lt (by (with_reducible repeat (first | apply Kd.R_alloc | apply Kd.R_drewN | apply Kd.R_drew)); exact HO168.1))) (below_size (by repeat (first | (with_reducible first | exact HB.1 | apply below_alloc | apply pw_below_drewN | apply below_drew1 | refine below_set ?_ GE155.1 | refine below_set ?_ GE156.1 | refine below_set ?_ GE158.1) | exact HB.1))))
             have n4_ := Aside0.mk (blk_below (g := gb155) (o := .cells #[.slice (some ad159) l0_0.length c0_0, .slice (some ad160) l0_1.length c0_1] 28 (0, 0)) (by (with_reducible repeat (first | refine blk_drewN ?_ _ | refine blk_drew ?_ | refine blk_alloc ?_ _)); exact BK155.1) hb)
             have n5_ := Aside0.mk (blk_below (g := gb156) (o := .cells #[.slice none 0 0, .slice none 0 0] 28 (0, 0)) (by (with_reducible repeat (first | refine blk_drewN ?_ _ | refine blk_drew ?_ | refine blk_alloc ?_ _)); exact BK156.1) hb)
             have n6_ := Aside0.mk (blk_below (g := gb158) (o := .cells #[.slice Ao25 x159000_1.length co25, .slice Ao26 x159001_1.length co26] 28 (0, 0)) (by (with_reducible repeat (first | refine blk_drewN ?_ _ | refine blk_drew ?_ | refine blk_alloc ?_ _)); exact BK158.1) hb)
             have n7_ := Aside0.mk (below_step (by repeat (first | (with_reducible first | exact HB.1 | apply below_alloc | apply pw_below_drewN | apply below_drew1 | refine below_set ?_ GE155.1 | refine below_set ?_ GE156.1 | refine below_set ?_ GE158.1) | exact HB.1)) hb)
             clear Q159_1
             clear HO165
             clear HO168
             clear BK155
             clear BK156
             clear BK158
             clear HB
             have Q159_1 := n0_
             have HO165 := n1_
             have HO168 := n2_
             have HO171 := n3_
             have BK155 := n4_
             have BK156 := n5_
             have BK158 := n6_
             have HB := n7_
             clear n0_ n1_ n2_ n3_ n4_ n5_ n6_ n7_
             clear hb ho33
             refine hK.out _ _ ⟨(blk_cell BK158.1 0).trans rfl, (blk_cell BK158.1 1).trans rfl⟩ (fun hHeld => ?_)
             clear hK K
             refine norm_ (a' := ?_) ?_ ?_
             rotate_left
             ·show Act.put _ (some 43) _ = _
              simp only [Act.put, List.setIfInBounds_toArray, List.set_cons_zero, List.set_cons_succ, i64_w, i32_w]
              rfl
             exact norm_ (by simp only [putAll, Act.put, List.setIfInBounds_toArray, List.set_cons_zero, List.set_cons_succ]) (hCont (.slice Ao31 y163.length co31, v167, v170) _ ⟨hHeld, (by (with_reducible repeat (first | apply Kd.R_alloc | apply Kd.R_drewN | apply Kd.R_drew)); exact Kd.R_mono HO165.1 (fun _ hk => ⟨hk.1.2, ⟨hk.2, hk.1.1⟩⟩)), (by (with_reducible repeat (first | apply Kd.R_alloc | apply Kd.R_drewN | apply Kd.R_drew)); exact Kd.R_mono HO168.1 (fun _ hk => ⟨hk.1.2, ⟨hk.2, hk.1.1⟩⟩)), (by (with_reducible repeat (first | apply Kd.R_alloc | apply Kd.R_drewN | apply Kd.R_drew)); exact Kd.R_mono HO171.1 (fun _ hk => ⟨hk.1.2, ⟨hk.2, hk.1.1.2⟩⟩)), (by (with_reducible repeat (first | apply Kd.R_alloc | apply Kd.R_drewN | apply Kd.R_drew)); exact Kd.R_mono Q159_1.1 (fun _ hk => ⟨hk.1.1, ⟨hk.1.2, hk.2⟩⟩)), (by (with_reducible repeat (first | refine blk_drewN ?_ _ | refine blk_drew ?_ | refine blk_alloc ?_ _)); exact BK155.1), (by (with_reducible repeat (first | refine blk_drewN ?_ _ | refine blk_drew ?_ | refine blk_alloc ?_ _)); exact BK156.1), (by (with_reducible repeat (first | refine blk_drewN ?_ _ | refine blk_drew ?_ | refine blk_alloc ?_ _)); exact BK158.1), (by repeat (first | (with_reducible first | exact HB.1 | apply below_alloc | apply pw_below_drewN | apply below_drew1 | refine below_set ?_ GE155.1 | refine below_set ?_ GE156.1 | refine below_set ?_ GE158.1) | exact HB.1))⟩)
            ·skip
             refine Kd.R_lit_step (Kd.int .i64) _ 3 ?hg (N := 43) ?hd (xs := ([t162] : List Int)) (inner := [.int .i64 t162]) (ok := fun _ => True) (okp := fun _ => True) ?hr ?hp (fun _ hk => hk) trivial (Below.refl _ _) (Nat.le_refl _) (by simp) ?_; (case hd => rfl); (case hg => rfl); (case hr => first | (go_simp; done) | (go_simp; rfl)); (case hp => exact (Reps.one (show Kd.M (Kd.int .i64) _ _ _ t162 [.int .i64 t162] from rfl) (Reps.none _ _)))
             intro v170 w30 ho31 hb hg_ hnew_
             clear hg_ hnew_
             (first | rw [← Ny169.1] at ho31 | (simp only [Int.reduceToNat] at ho31; rw [← Ny169.1] at ho31))
             have n0_ := Aside0.mk (Kd.R_elder' (by (with_reducible repeat (first | apply Kd.R_alloc | apply Kd.R_drewN | apply Kd.R_drew)); exact Q159_0.1) (Kd.R_base ho31) hb)
             have n1_ := Aside0.mk (Kd.R_elder' (by (with_reducible repeat (first | apply Kd.R_alloc | apply Kd.R_drewN | apply Kd.R_drew)); exact Q159_1.1) (Kd.R_base ho31) hb)
             have n2_ := Aside0.mk (Kd.R_elder' (by (with_reducible repeat (first | apply Kd.R_alloc | apply Kd.R_drewN | apply Kd.R_drew)); exact HO165.1) (Kd.R_base ho31) hb)
             have n3_ := Aside0.mk (Kd.R_lower (Kd.R_new' (Kd.R_new' (Kd.R_new' ho31 (Kd.R_lt (by (with_reducible repeat (first | apply Kd.R_alloc | apply Kd.R_drewN | apply Kd.R_drew)); exact Q159_0.1))) (Kd.R_lt (by (with_reducible repeat (first | apply Kd.R_alloc | apply Kd.R_drewN | apply Kd.R_drew)); exact Q159_1.1))) (Kd.R_lt (by (with_reducible repeat (first | apply Kd.R_alloc | apply Kd.R_drewN | apply Kd.R_drew)); exact HO165.1))) (below_size (by repeat (first | (with_reducible first | exact HB.1 | apply below_alloc | apply pw_below_drewN | apply below_drew1 | refine below_set ?_ GE155.1 | refine below_set ?_ GE156.1 | refine below_set ?_ GE158.1) | exact HB.1))))
             have n4_ := Aside0.mk (blk_below (g := gb155) (o := .cells #[.slice (some ad159) l0_0.length c0_0, .slice (some ad160) l0_1.length c0_1] 28 (0, 0)) (by (with_reducible repeat (first | refine blk_drewN ?_ _ | refine blk_drew ?_ | refine blk_alloc ?_ _)); exact BK155.1) hb)
             have n5_ := Aside0.mk (blk_below (g := gb156) (o := .cells #[.slice none 0 0, .slice none 0 0] 28 (0, 0)) (by (with_reducible repeat (first | refine blk_drewN ?_ _ | refine blk_drew ?_ | refine blk_alloc ?_ _)); exact BK156.1) hb)
             have n6_ := Aside0.mk (blk_below (g := gb158) (o := .cells #[.slice Ao25 x159000_1.length co25, .slice Ao26 x159001_1.length co26] 28 (0, 0)) (by (with_reducible repeat (first | refine blk_drewN ?_ _ | refine blk_drew ?_ | refine blk_alloc ?_ _)); exact BK158.1) hb)
             have n7_ := Aside0.mk (below_step (by repeat (first | (with_reducible first | exact HB.1 | apply below_alloc | apply pw_below_drewN | apply below_drew1 | refine below_set ?_ GE155.1 | refine below_set ?_ GE156.1 | refine below_set ?_ GE158.1) | exact HB.1)) hb)
             clear Q159_0
             clear Q159_1
             clear HO165
             clear BK155
             clear BK156
             clear BK158
             clear HB
             have Q159_0 := n0_
             have Q159_1 := n1_
             have HO165 := n2_
             have HO171 := n3_
             have BK155 := n4_
             have BK156 := n5_
             have BK158 := n6_
             have HB := n7_
             clear n0_ n1_ n2_ n3_ n4_ n5_ n6_ n7_
             clear hb ho31
             obtain ⟨Ao33, co33, eo33⟩ := Kd.R_slice HO165.1
             (first | subst eo33 | (injection eo33 with f1_ f2_ f3_; have f4_ := f1_.symm; have f5_ := f3_.symm; clear f1_ f2_ f3_; subst f4_; subst f5_))
             refine hK.out _ _ ⟨(blk_cell BK158.1 0).trans rfl, (blk_cell BK158.1 1).trans rfl⟩ (fun hHeld => ?_)
             clear hK K
             refine norm_ (a' := ?_) ?_ ?_
             rotate_left
             ·show Act.put _ (some 43) _ = _
              simp only [Act.put, List.setIfInBounds_toArray, List.set_cons_zero, List.set_cons_succ, i64_w, i32_w]
              rfl
             refine one_ (i := 4) (N := some 39) #[true, true, true, true, true, true, true, true, true, false, false, false, false, false] rfl rfl (one_of HT_.1 (by kernel_rfl)) (by decide) (fun K hK => ?_)
             refine Kd.R_append_rows_step (Kd.int .i64) (w0 := w) w.heap.size (by rfl) (.tmp 36) (.tmp 38) 22 3 (.int .i64 0) 8 rfl Try.underlying22 info3 rfl (by decide) (by omega) (.slice Ao25 x159000_1.length co25) x159000_1 y163 _ _ _ (fun k_ => some k_ ≠ (.slice Ao26 x159001_1.length co26 : Value).ownBlock ∧ some k_ ≠ (.slice Ao33 y163.length co33 : Value).ownBlock ∧ some k_ ≠ (v170 : Value).ownBlock) (fun _ => False) rfl rfl ?aO ?aR (fun _ _ h => h) (fun _ h => h.elim) ?aF ?aB ?aS ?aL ?_
             (case aR => repeat (first | exact (Kd.R_reads' HO165.1).2.2 | (with_reducible refine Kd.C_alloc ?_ _) | (with_reducible refine Kd.C_drewN ?_ _) | (with_reducible refine Kd.C_drew ?_)))
             (case aB => exact (by repeat (first | (with_reducible first | exact HB.1 | apply below_alloc | apply pw_below_drewN | apply below_drew1 | refine below_set ?_ GE155.1 | refine below_set ?_ GE156.1 | refine below_set ?_ GE158.1) | exact HB.1)))
             (case aF => exact (fun k_ hk => ⟨Kd.fresh' (Kd.R_lt (by (with_reducible repeat (first | apply Kd.R_alloc | apply Kd.R_drewN | apply Kd.R_drew)); exact Q159_1.1)) k_ hk, Kd.fresh' (Kd.R_lt (by (with_reducible repeat (first | apply Kd.R_alloc | apply Kd.R_drewN | apply Kd.R_drew)); exact HO165.1)) k_ hk, Kd.fresh' (Kd.R_lt (by (with_reducible repeat (first | apply Kd.R_alloc | apply Kd.R_drewN | apply Kd.R_drew)); exact HO171.1)) k_ hk⟩))
             (case aO => exact (by (with_reducible repeat (first | apply Kd.R_alloc | apply Kd.R_drewN | apply Kd.R_drew)); exact Kd.R_mono Q159_0.1 (fun _ hk => ⟨hk.1.1, ⟨hk.1.2, hk.2⟩⟩)))
             (case aS => exact (below_size (by repeat (first | (with_reducible first | exact HB.1 | apply below_alloc | apply pw_below_drewN | apply below_drew1 | refine below_set ?_ GE155.1 | refine below_set ?_ GE156.1 | refine below_set ?_ GE158.1) | exact HB.1))))
             (case aL => have := LMc20.1; omega)
             intro v167 w32 ho hb hg hat
             rw [← Ny166.1] at ho
             have n0_ := Aside0.mk (Kd.R_after (ok := (fun k_ => some k_ ≠ (.slice Ao33 y163.length co33 : Value).ownBlock ∧ some k_ ≠ (v170 : Value).ownBlock)) (by (with_reducible repeat (first | apply Kd.R_alloc | apply Kd.R_drewN | apply Kd.R_drew)); exact Kd.R_mono Q159_1.1 (fun _ hk => ⟨⟨hk.1.2, hk.2⟩, hk.1.1⟩)) hg hat)
             have n1_ := Aside0.mk (blk_grown (g := gb155) (o := .cells #[.slice (some ad159) l0_0.length c0_0, .slice (some ad160) l0_1.length c0_1] 28 (0, 0)) (by (with_reducible repeat (first | refine blk_drewN ?_ _ | refine blk_drew ?_ | refine blk_alloc ?_ _)); exact BK155.1) hg (Kd.R_ne Q159_0.1 BK155.1 (by decide)))
             have n2_ := Aside0.mk (blk_grown (g := gb156) (o := .cells #[.slice none 0 0, .slice none 0 0] 28 (0, 0)) (by (with_reducible repeat (first | refine blk_drewN ?_ _ | refine blk_drew ?_ | refine blk_alloc ?_ _)); exact BK156.1) hg (Kd.R_ne Q159_0.1 BK156.1 (by decide)))
             have n3_ := Aside0.mk (blk_grown (g := gb158) (o := .cells #[.slice Ao25 x159000_1.length co25, .slice Ao26 x159001_1.length co26] 28 (0, 0)) (by (with_reducible repeat (first | refine blk_drewN ?_ _ | refine blk_drew ?_ | refine blk_alloc ?_ _)); exact BK158.1) hg (Kd.R_ne Q159_0.1 BK158.1 (by decide)))
             have n4_ := Aside0.mk (Kd.R_after (ok := (fun k_ => some k_ ≠ (.slice Ao26 x159001_1.length co26 : Value).ownBlock ∧ some k_ ≠ (v170 : Value).ownBlock)) (by (with_reducible repeat (first | apply Kd.R_alloc | apply Kd.R_drewN | apply Kd.R_drew)); exact Kd.R_mono HO165.1 (fun _ hk => ⟨⟨hk.1.2, hk.2⟩, hk.1.1.2⟩)) hg hat)
             have n5_ := Aside0.mk (Kd.R_after (ok := (fun k_ => some k_ ≠ (.slice Ao26 x159001_1.length co26 : Value).ownBlock ∧ some k_ ≠ (.slice Ao33 y163.length co33 : Value).ownBlock)) (by (with_reducible repeat (first | apply Kd.R_alloc | apply Kd.R_drewN | apply Kd.R_drew)); exact Kd.R_mono HO171.1 (fun _ hk => ⟨⟨hk.1.2, hk.2⟩, hk.1.1.2⟩)) hg hat)
             have n6_ := Aside0.mk (hb)
             have n7_ := Aside0.mk (ho)
             clear Q159_1
             clear BK155
             clear BK156
             clear BK158
             clear HO165
             clear HO171
             clear HB
             clear Q159_0
             have Q159_1 := n0_
             have BK155 := n1_
             have BK156 := n2_
             have BK158 := n3_
             have HO165 := n4_
             have HO171 := n5_
             have HB := n6_
             have HO168 := n7_
             clear n0_ n1_ n2_ n3_ n4_ n5_ n6_ n7_
             clear ho hb hg hat
             refine hK.out _ _ ⟨(blk_cell BK158.1 0).trans rfl, (blk_cell BK158.1 1).trans rfl⟩ (fun hHeld => ?_)
             clear hK K
             refine norm_ (a' := ?_) ?_ ?_
             rotate_left
             ·show Act.put _ (some 39) _ = _
              simp only [Act.put, List.setIfInBounds_toArray, List.set_cons_zero, List.set_cons_succ, i64_w, i32_w]
              rfl
             refine pure_ (i := 10) (N := some 45) (v := ?_) (a' := ?_) #[true, true, true, true, true, true, true, true, true, false, true, false, false, false] rfl rfl (any_of HT_.1 (by kernel_rfl)) (fun _ _ _ h => h) (Or.inl ⟨by rfl, ?_⟩) ?_ ?_
             rotate_left
             ·intro w'
              go_simp
              with_reducible rfl
             rotate_left
             ·simp only [Act.put, List.setIfInBounds_toArray, List.set_cons_zero, List.set_cons_succ, i64_w, i32_w]
              rfl
             exact norm_ (by simp only [putAll, Act.put, List.setIfInBounds_toArray, List.set_cons_zero, List.set_cons_succ]) (hCont (.slice Ao33 y163.length co33, v167, v170) _ ⟨hHeld, (by (with_reducible repeat (first | apply Kd.R_alloc | apply Kd.R_drewN | apply Kd.R_drew)); exact Kd.R_mono HO165.1 (fun _ hk => ⟨hk.2, ⟨hk.1.2, hk.1.1⟩⟩)), (by (with_reducible repeat (first | apply Kd.R_alloc | apply Kd.R_drewN | apply Kd.R_drew)); exact Kd.R_mono HO168.1 (fun _ hk => ⟨hk.2.1, ⟨hk.2.2, hk.1⟩⟩)), (by (with_reducible repeat (first | apply Kd.R_alloc | apply Kd.R_drewN | apply Kd.R_drew)); exact Kd.R_mono HO171.1 (fun _ hk => ⟨hk.1.2, ⟨hk.2, hk.1.1⟩⟩)), (by (with_reducible repeat (first | apply Kd.R_alloc | apply Kd.R_drewN | apply Kd.R_drew)); exact Kd.R_mono Q159_1.1 (fun _ hk => ⟨hk.1.1, ⟨hk.2, hk.1.2⟩⟩)), (by (with_reducible repeat (first | refine blk_drewN ?_ _ | refine blk_drew ?_ | refine blk_alloc ?_ _)); exact BK155.1), (by (with_reducible repeat (first | refine blk_drewN ?_ _ | refine blk_drew ?_ | refine blk_alloc ?_ _)); exact BK156.1), (by (with_reducible repeat (first | refine blk_drewN ?_ _ | refine blk_drew ?_ | refine blk_alloc ?_ _)); exact BK158.1), (by repeat (first | (with_reducible first | exact HB.1 | apply below_alloc | apply pw_below_drewN | apply below_drew1 | refine below_set ?_ GE155.1 | refine below_set ?_ GE156.1 | refine below_set ?_ GE158.1) | exact HB.1))⟩)
           ·skip
            refine Kd.R_lit_step (Kd.int .i64) _ 3 ?hg (N := 43) ?hd (xs := ([t162] : List Int)) (inner := [.int .i64 t162]) (ok := fun _ => True) (okp := fun _ => True) ?hr ?hp (fun _ hk => hk) trivial (Below.refl _ _) (Nat.le_refl _) (by simp) ?_; (case hd => rfl); (case hg => rfl); (case hr => first | (go_simp; done) | (go_simp; rfl)); (case hp => exact (Reps.one (show Kd.M (Kd.int .i64) _ _ _ t162 [.int .i64 t162] from rfl) (Reps.none _ _)))
            intro v170 w28 ho29 hb hg_ hnew_
            clear hg_ hnew_
            (first | rw [← Ny169.1] at ho29 | (simp only [Int.reduceToNat] at ho29; rw [← Ny169.1] at ho29))
            have n0_ := Aside0.mk (Kd.R_elder' (by (with_reducible repeat (first | apply Kd.R_alloc | apply Kd.R_drewN | apply Kd.R_drew)); exact Q159_0.1) (Kd.R_base ho29) hb)
            have n1_ := Aside0.mk (Kd.R_elder' (by (with_reducible repeat (first | apply Kd.R_alloc | apply Kd.R_drewN | apply Kd.R_drew)); exact Q159_1.1) (Kd.R_base ho29) hb)
            have n2_ := Aside0.mk (Kd.R_lower (Kd.R_new' (Kd.R_new' ho29 (Kd.R_lt (by (with_reducible repeat (first | apply Kd.R_alloc | apply Kd.R_drewN | apply Kd.R_drew)); exact Q159_0.1))) (Kd.R_lt (by (with_reducible repeat (first | apply Kd.R_alloc | apply Kd.R_drewN | apply Kd.R_drew)); exact Q159_1.1))) (below_size (by repeat (first | (with_reducible first | exact HB.1 | apply below_alloc | apply pw_below_drewN | apply below_drew1 | refine below_set ?_ GE155.1 | refine below_set ?_ GE156.1 | refine below_set ?_ GE158.1) | exact HB.1))))
            have n3_ := Aside0.mk (blk_below (g := gb155) (o := .cells #[.slice (some ad159) l0_0.length c0_0, .slice (some ad160) l0_1.length c0_1] 28 (0, 0)) (by (with_reducible repeat (first | refine blk_drewN ?_ _ | refine blk_drew ?_ | refine blk_alloc ?_ _)); exact BK155.1) hb)
            have n4_ := Aside0.mk (blk_below (g := gb156) (o := .cells #[.slice none 0 0, .slice none 0 0] 28 (0, 0)) (by (with_reducible repeat (first | refine blk_drewN ?_ _ | refine blk_drew ?_ | refine blk_alloc ?_ _)); exact BK156.1) hb)
            have n5_ := Aside0.mk (blk_below (g := gb158) (o := .cells #[.slice Ao25 x159000_1.length co25, .slice Ao26 x159001_1.length co26] 28 (0, 0)) (by (with_reducible repeat (first | refine blk_drewN ?_ _ | refine blk_drew ?_ | refine blk_alloc ?_ _)); exact BK158.1) hb)
            have n6_ := Aside0.mk (below_step (by repeat (first | (with_reducible first | exact HB.1 | apply below_alloc | apply pw_below_drewN | apply below_drew1 | refine below_set ?_ GE155.1 | refine below_set ?_ GE156.1 | refine below_set ?_ GE158.1) | exact HB.1)) hb)
            clear Q159_0
            clear Q159_1
            clear BK155
            clear BK156
            clear BK158
            clear HB
            have Q159_0 := n0_
            have Q159_1 := n1_
            have HO171 := n2_
            have BK155 := n3_
            have BK156 := n4_
            have BK158 := n5_
            have HB := n6_
            clear n0_ n1_ n2_ n3_ n4_ n5_ n6_
            clear hb ho29
            refine hK.out _ _ ⟨(blk_cell BK158.1 0).trans rfl, (blk_cell BK158.1 1).trans rfl⟩ (fun hHeld => ?_)
            clear hK K
            refine norm_ (a' := ?_) ?_ ?_
            rotate_left
            ·show Act.put _ (some 43) _ = _
             simp only [Act.put, List.setIfInBounds_toArray, List.set_cons_zero, List.set_cons_succ, i64_w, i32_w]
             rfl
            refine one_ (i := 3) (N := some 38) #[true, true, true, true, false, true, true, true, true, false, false, false, false, false] rfl rfl (one_of HT_.1 (by kernel_rfl)) (by decide) (fun K hK => ?_)
            refine Kd.R_lit_step (Kd.int .i64) _ 3 ?hg (N := 38) ?hd (xs := ([t161] : List Int)) (inner := [.int .i64 t161]) (ok := fun _ => True) (okp := fun _ => True) ?hr ?hp (fun _ hk => hk) trivial (Below.refl _ _) (Nat.le_refl _) (by simp) ?_; (case hd => rfl); (case hg => rfl); (case hr => first | (go_simp; done) | (go_simp; rfl)); (case hp => exact (Reps.one (show Kd.M (Kd.int .i64) _ _ _ t161 [.int .i64 t161] from rfl) (Reps.none _ _)))
            intro v164 w30 ho31 hb hg_ hnew_
            clear hg_ hnew_
            (first | rw [← Ny163.1] at ho31 | (simp only [Int.reduceToNat] at ho31; rw [← Ny163.1] at ho31))
            have n0_ := Aside0.mk (Kd.R_elder' (by (with_reducible repeat (first | apply Kd.R_alloc | apply Kd.R_drewN | apply Kd.R_drew)); exact Q159_0.1) (Kd.R_base ho31) hb)
            have n1_ := Aside0.mk (Kd.R_elder' (by (with_reducible repeat (first | apply Kd.R_alloc | apply Kd.R_drewN | apply Kd.R_drew)); exact Q159_1.1) (Kd.R_base ho31) hb)
            have n2_ := Aside0.mk (Kd.R_elder' (by (with_reducible repeat (first | apply Kd.R_alloc | apply Kd.R_drewN | apply Kd.R_drew)); exact HO171.1) (Kd.R_base ho31) hb)
            have n3_ := Aside0.mk (Kd.R_lower (Kd.R_new' (Kd.R_new' (Kd.R_new' ho31 (Kd.R_lt (by (with_reducible repeat (first | apply Kd.R_alloc | apply Kd.R_drewN | apply Kd.R_drew)); exact Q159_0.1))) (Kd.R_lt (by (with_reducible repeat (first | apply Kd.R_alloc | apply Kd.R_drewN | apply Kd.R_drew)); exact Q159_1.1))) (Kd.R_lt (by (with_reducible repeat (first | apply Kd.R_alloc | apply Kd.R_drewN | apply Kd.R_drew)); exact HO171.1))) (below_size (by repeat (first | (with_reducible first | exact HB.1 | apply below_alloc | apply pw_below_drewN | apply below_drew1 | refine below_set ?_ GE155.1 | refine below_set ?_ GE156.1 | refine below_set ?_ GE158.1) | exact HB.1))))
            have n4_ := Aside0.mk (blk_below (g := gb155) (o := .cells #[.slice (some ad159) l0_0.length c0_0, .slice (some ad160) l0_1.length c0_1] 28 (0, 0)) (by (with_reducible repeat (first | refine blk_drewN ?_ _ | refine blk_drew ?_ | refine blk_alloc ?_ _)); exact BK155.1) hb)
            have n5_ := Aside0.mk (blk_below (g := gb156) (o := .cells #[.slice none 0 0, .slice none 0 0] 28 (0, 0)) (by (with_reducible repeat (first | refine blk_drewN ?_ _ | refine blk_drew ?_ | refine blk_alloc ?_ _)); exact BK156.1) hb)
            have n6_ := Aside0.mk (blk_below (g := gb158) (o := .cells #[.slice Ao25 x159000_1.length co25, .slice Ao26 x159001_1.length co26] 28 (0, 0)) (by (with_reducible repeat (first | refine blk_drewN ?_ _ | refine blk_drew ?_ | refine blk_alloc ?_ _)); exact BK158.1) hb)
            have n7_ := Aside0.mk (below_step (by repeat (first | (with_reducible first | exact HB.1 | apply below_alloc | apply pw_below_drewN | apply below_drew1 | refine below_set ?_ GE155.1 | refine below_set ?_ GE156.1 | refine below_set ?_ GE158.1) | exact HB.1)) hb)
            clear Q159_0
            clear Q159_1
            clear HO171
            clear BK155
            clear BK156
            clear BK158
            clear HB
            have Q159_0 := n0_
            have Q159_1 := n1_
            have HO171 := n2_
            have HO165 := n3_
            have BK155 := n4_
            have BK156 := n5_
            have BK158 := n6_
            have HB := n7_
            clear n0_ n1_ n2_ n3_ n4_ n5_ n6_ n7_
            clear hb ho31
            obtain ⟨Ao33, co33, eo33⟩ := Kd.R_slice HO165.1
            (first | subst eo33 | (injection eo33 with f1_ f2_ f3_; have f4_ := f1_.symm; have f5_ := f3_.symm; clear f1_ f2_ f3_; subst f4_; subst f5_))
            refine hK.out _ _ ⟨(blk_cell BK158.1 0).trans rfl, (blk_cell BK158.1 1).trans rfl⟩ (fun hHeld => ?_)
            clear hK K
            refine norm_ (a' := ?_) ?_ ?_
            rotate_left
            ·show Act.put _ (some 38) _ = _
             simp only [Act.put, List.setIfInBounds_toArray, List.set_cons_zero, List.set_cons_succ, i64_w, i32_w]
             rfl
            refine one_ (i := 4) (N := some 39) #[true, true, true, true, true, true, true, true, true, false, false, false, false, false] rfl rfl (one_of HT_.1 (by kernel_rfl)) (by decide) (fun K hK => ?_)
            refine Kd.R_append_rows_step (Kd.int .i64) (w0 := w) w.heap.size (by rfl) (.tmp 36) (.tmp 38) 22 3 (.int .i64 0) 8 rfl Try.underlying22 info3 rfl (by decide) (by omega) (.slice Ao25 x159000_1.length co25) x159000_1 y163 _ _ _ (fun k_ => some k_ ≠ (.slice Ao26 x159001_1.length co26 : Value).ownBlock ∧ some k_ ≠ (v170 : Value).ownBlock ∧ some k_ ≠ (.slice Ao33 y163.length co33 : Value).ownBlock) (fun _ => False) rfl rfl ?aO ?aR (fun _ _ h => h) (fun _ h => h.elim) ?aF ?aB ?aS ?aL ?_
            (case aR => repeat (first | exact (Kd.R_reads' HO165.1).2.2 | (with_reducible refine Kd.C_alloc ?_ _) | (with_reducible refine Kd.C_drewN ?_ _) | (with_reducible refine Kd.C_drew ?_)))
            (case aB => exact (by repeat (first | (with_reducible first | exact HB.1 | apply below_alloc | apply pw_below_drewN | apply below_drew1 | refine below_set ?_ GE155.1 | refine below_set ?_ GE156.1 | refine below_set ?_ GE158.1) | exact HB.1)))
            (case aF => exact (fun k_ hk => ⟨Kd.fresh' (Kd.R_lt (by (with_reducible repeat (first | apply Kd.R_alloc | apply Kd.R_drewN | apply Kd.R_drew)); exact Q159_1.1)) k_ hk, Kd.fresh' (Kd.R_lt (by (with_reducible repeat (first | apply Kd.R_alloc | apply Kd.R_drewN | apply Kd.R_drew)); exact HO171.1)) k_ hk, Kd.fresh' (Kd.R_lt (by (with_reducible repeat (first | apply Kd.R_alloc | apply Kd.R_drewN | apply Kd.R_drew)); exact HO165.1)) k_ hk⟩))
            (case aO => exact (by (with_reducible repeat (first | apply Kd.R_alloc | apply Kd.R_drewN | apply Kd.R_drew)); exact Kd.R_mono Q159_0.1 (fun _ hk => ⟨hk.1.1, ⟨hk.1.2, hk.2⟩⟩)))
            (case aS => exact (below_size (by repeat (first | (with_reducible first | exact HB.1 | apply below_alloc | apply pw_below_drewN | apply below_drew1 | refine below_set ?_ GE155.1 | refine below_set ?_ GE156.1 | refine below_set ?_ GE158.1) | exact HB.1))))
            (case aL => have := LMc20.1; omega)
            intro v167 w32 ho hb hg hat
            rw [← Ny166.1] at ho
            have n0_ := Aside0.mk (Kd.R_after (ok := (fun k_ => some k_ ≠ (v170 : Value).ownBlock ∧ some k_ ≠ (.slice Ao33 y163.length co33 : Value).ownBlock)) (by (with_reducible repeat (first | apply Kd.R_alloc | apply Kd.R_drewN | apply Kd.R_drew)); exact Kd.R_mono Q159_1.1 (fun _ hk => ⟨⟨hk.1.2, hk.2⟩, hk.1.1⟩)) hg hat)
            have n1_ := Aside0.mk (blk_grown (g := gb155) (o := .cells #[.slice (some ad159) l0_0.length c0_0, .slice (some ad160) l0_1.length c0_1] 28 (0, 0)) (by (with_reducible repeat (first | refine blk_drewN ?_ _ | refine blk_drew ?_ | refine blk_alloc ?_ _)); exact BK155.1) hg (Kd.R_ne Q159_0.1 BK155.1 (by decide)))
            have n2_ := Aside0.mk (blk_grown (g := gb156) (o := .cells #[.slice none 0 0, .slice none 0 0] 28 (0, 0)) (by (with_reducible repeat (first | refine blk_drewN ?_ _ | refine blk_drew ?_ | refine blk_alloc ?_ _)); exact BK156.1) hg (Kd.R_ne Q159_0.1 BK156.1 (by decide)))
            have n3_ := Aside0.mk (blk_grown (g := gb158) (o := .cells #[.slice Ao25 x159000_1.length co25, .slice Ao26 x159001_1.length co26] 28 (0, 0)) (by (with_reducible repeat (first | refine blk_drewN ?_ _ | refine blk_drew ?_ | refine blk_alloc ?_ _)); exact BK158.1) hg (Kd.R_ne Q159_0.1 BK158.1 (by decide)))
            have n4_ := Aside0.mk (Kd.R_after (ok := (fun k_ => some k_ ≠ (.slice Ao26 x159001_1.length co26 : Value).ownBlock ∧ some k_ ≠ (.slice Ao33 y163.length co33 : Value).ownBlock)) (by (with_reducible repeat (first | apply Kd.R_alloc | apply Kd.R_drewN | apply Kd.R_drew)); exact Kd.R_mono HO171.1 (fun _ hk => ⟨⟨hk.1.2, hk.2⟩, hk.1.1.2⟩)) hg hat)
            have n5_ := Aside0.mk (Kd.R_after (ok := (fun k_ => some k_ ≠ (.slice Ao26 x159001_1.length co26 : Value).ownBlock ∧ some k_ ≠ (v170 : Value).ownBlock)) (by (with_reducible repeat (first | apply Kd.R_alloc | apply Kd.R_drewN | apply Kd.R_drew)); exact Kd.R_mono HO165.1 (fun _ hk => ⟨⟨hk.1.2, hk.2⟩, hk.1.1.2⟩)) hg hat)
            have n6_ := Aside0.mk (hb)
            have n7_ := Aside0.mk (ho)
            clear Q159_1
            clear BK155
            clear BK156
            clear BK158
            clear HO171
            clear HO165
            clear HB
            clear Q159_0
            have Q159_1 := n0_
            have BK155 := n1_
            have BK156 := n2_
            have BK158 := n3_
            have HO171 := n4_
            have HO165 := n5_
            have HB := n6_
            have HO168 := n7_
            clear n0_ n1_ n2_ n3_ n4_ n5_ n6_ n7_
            clear ho hb hg hat
            refine hK.out _ _ ⟨(blk_cell BK158.1 0).trans rfl, (blk_cell BK158.1 1).trans rfl⟩ (fun hHeld => ?_)
            clear hK K
            refine norm_ (a' := ?_) ?_ ?_
            rotate_left
            ·show Act.put _ (some 39) _ = _
             simp only [Act.put, List.setIfInBounds_toArray, List.set_cons_zero, List.set_cons_succ, i64_w, i32_w]
             rfl
            refine pure_ (i := 10) (N := some 45) (v := ?_) (a' := ?_) #[true, true, true, true, true, true, true, true, true, false, true, false, false, false] rfl rfl (any_of HT_.1 (by kernel_rfl)) (fun _ _ _ h => h) (Or.inl ⟨by rfl, ?_⟩) ?_ ?_
            rotate_left
            ·intro w'
             go_simp
             with_reducible rfl
            rotate_left
            ·simp only [Act.put, List.setIfInBounds_toArray, List.set_cons_zero, List.set_cons_succ, i64_w, i32_w]
             rfl
            exact norm_ (by simp only [putAll, Act.put, List.setIfInBounds_toArray, List.set_cons_zero, List.set_cons_succ]) (hCont (.slice Ao33 y163.length co33, v167, v170) _ ⟨hHeld, (by (with_reducible repeat (first | apply Kd.R_alloc | apply Kd.R_drewN | apply Kd.R_drew)); exact Kd.R_mono HO165.1 (fun _ hk => ⟨hk.2, ⟨hk.1.2, hk.1.1⟩⟩)), (by (with_reducible repeat (first | apply Kd.R_alloc | apply Kd.R_drewN | apply Kd.R_drew)); exact Kd.R_mono HO168.1 (fun _ hk => ⟨hk.2.2, ⟨hk.2.1, hk.1⟩⟩)), (by (with_reducible repeat (first | apply Kd.R_alloc | apply Kd.R_drewN | apply Kd.R_drew)); exact Kd.R_mono HO171.1 (fun _ hk => ⟨hk.1.2, ⟨hk.2, hk.1.1⟩⟩)), (by (with_reducible repeat (first | apply Kd.R_alloc | apply Kd.R_drewN | apply Kd.R_drew)); exact Kd.R_mono Q159_1.1 (fun _ hk => ⟨hk.1.2, ⟨hk.2, hk.1.1⟩⟩)), (by (with_reducible repeat (first | refine blk_drewN ?_ _ | refine blk_drew ?_ | refine blk_alloc ?_ _)); exact BK155.1), (by (with_reducible repeat (first | refine blk_drewN ?_ _ | refine blk_drew ?_ | refine blk_alloc ?_ _)); exact BK156.1), (by (with_reducible repeat (first | refine blk_drewN ?_ _ | refine blk_drew ?_ | refine blk_alloc ?_ _)); exact BK158.1), (by repeat (first | (with_reducible first | exact HB.1 | apply below_alloc | apply pw_below_drewN | apply below_drew1 | refine below_set ?_ GE155.1 | refine below_set ?_ GE156.1 | refine below_set ?_ GE158.1) | exact HB.1))⟩)
          rintro ⟨v164, v167, v170⟩ w34 ⟨hS_, h0_, h1_, h2_, h3_, h4_, h5_, h6_, h7_⟩
          have n0_ : Aside0 (Kd.R (Kd.int .i64) 3 w34 w.heap.size (fun k_ => some k_ ≠ (v167 : Value).ownBlock ∧ some k_ ≠ (v170 : Value).ownBlock ∧ some k_ ≠ (.slice Ao26 x159001_1.length co26 : Value).ownBlock) v164 y163) := ⟨h0_⟩
          have n1_ : Aside0 (Kd.R (Kd.int .i64) 3 w34 w.heap.size (fun k_ => some k_ ≠ (v164 : Value).ownBlock ∧ some k_ ≠ (v170 : Value).ownBlock ∧ some k_ ≠ (.slice Ao26 x159001_1.length co26 : Value).ownBlock) v167 y166) := ⟨h1_⟩
          have n2_ : Aside0 (Kd.R (Kd.int .i64) 3 w34 w.heap.size (fun k_ => some k_ ≠ (v164 : Value).ownBlock ∧ some k_ ≠ (v167 : Value).ownBlock ∧ some k_ ≠ (.slice Ao26 x159001_1.length co26 : Value).ownBlock) v170 y169) := ⟨h2_⟩
          have n3_ : Aside0 (Kd.R (Kd.int .i64) 3 w34 w.heap.size (fun k_ => some k_ ≠ (v164 : Value).ownBlock ∧ some k_ ≠ (v167 : Value).ownBlock ∧ some k_ ≠ (v170 : Value).ownBlock) (.slice Ao26 x159001_1.length co26) x159001_1) := ⟨h3_⟩
          have n4_ : Aside0 (w34.heap[gb155]? = some (.cells #[.slice (some ad159) l0_0.length c0_0, .slice (some ad160) l0_1.length c0_1] 28 (0, 0))) := ⟨h4_⟩
          have n5_ : Aside0 (w34.heap[gb156]? = some (.cells #[.slice none 0 0, .slice none 0 0] 28 (0, 0))) := ⟨h5_⟩
          have n6_ : Aside0 (w34.heap[gb158]? = some (.cells #[.slice Ao25 x159000_1.length co25, .slice Ao26 x159001_1.length co26] 28 (0, 0))) := ⟨h6_⟩
          have n7_ : Aside0 (Below w.heap.size w w34) := ⟨h7_⟩
          clear Q159_0
          clear Q159_1
          clear BK155
          clear BK156
          clear BK158
          clear HB
          clear h0_ h1_ h2_ h3_ h4_ h5_ h6_ h7_
          have HO165 := n0_
          have HO168 := n1_
          have HO171 := n2_
          have Q159_1 := n3_
          have BK155 := n4_
          have BK156 := n5_
          have BK158 := n6_
          have HB := n7_
          clear n0_ n1_ n2_ n3_ n4_ n5_ n6_ n7_
          have hHeld : w34.cell? ⟨gb158, 0, none⟩ = some (.slice Ao25 x159000_1.length co25) ∧ w34.cell? ⟨gb158, 1, none⟩ = some (.slice Ao26 x159001_1.length co26) := hS_
          obtain ⟨Ao36, co36, eo36⟩ := Kd.R_slice HO171.1
          (first | subst eo36 | (injection eo36 with f1_ f2_ f3_; have f4_ := f1_.symm; have f5_ := f3_.symm; clear f1_ f2_ f3_; subst f4_; subst f5_))
          refine norm_ (a' := ?_) ?_ ?_
          rotate_left
          ·simp only [putAll, Act.put, List.setIfInBounds_toArray, List.set_cons_zero, List.set_cons_succ]
           rfl
          refine one_ (i := 9) (N := some 44) #[true, true, true, true, true, true, true, true, true, true, true, false, false, false] rfl rfl (one_of HT_.1 (by kernel_rfl)) (by decide) (fun K hK => ?_)
          refine Kd.R_append_rows_step (Kd.int .i64) (w0 := w) w.heap.size (by rfl) (.tmp 41) (.tmp 43) 22 3 (.int .i64 0) 8 rfl Try.underlying22 info3 rfl (by decide) (by omega) (.slice Ao26 x159001_1.length co26) x159001_1 y169 _ _ _ (fun k_ => some k_ ≠ (v164 : Value).ownBlock ∧ some k_ ≠ (v167 : Value).ownBlock ∧ some k_ ≠ (.slice Ao36 y169.length co36 : Value).ownBlock) (fun _ => False) rfl rfl ?aO ?aR (fun _ _ h => h) (fun _ h => h.elim) ?aF ?aB ?aS ?aL ?_
          (case aR => repeat (first | exact (Kd.R_reads' HO171.1).2.2 | (with_reducible refine Kd.C_alloc ?_ _) | (with_reducible refine Kd.C_drewN ?_ _) | (with_reducible refine Kd.C_drew ?_)))
          (case aB => exact (by repeat (first | (with_reducible first | exact HB.1 | apply below_alloc | apply pw_below_drewN | apply below_drew1 | refine below_set ?_ GE155.1 | refine below_set ?_ GE156.1 | refine below_set ?_ GE158.1) | exact HB.1)))
          (case aF => exact (fun k_ hk => ⟨Kd.fresh' (Kd.R_lt (by (with_reducible repeat (first | apply Kd.R_alloc | apply Kd.R_drewN | apply Kd.R_drew)); exact HO165.1)) k_ hk, Kd.fresh' (Kd.R_lt (by (with_reducible repeat (first | apply Kd.R_alloc | apply Kd.R_drewN | apply Kd.R_drew)); exact HO168.1)) k_ hk, Kd.fresh' (Kd.R_lt (by (with_reducible repeat (first | apply Kd.R_alloc | apply Kd.R_drewN | apply Kd.R_drew)); exact HO171.1)) k_ hk⟩))
          (case aO => exact (by (with_reducible repeat (first | apply Kd.R_alloc | apply Kd.R_drewN | apply Kd.R_drew)); exact Q159_1.1))
          (case aS => exact (below_size (by repeat (first | (with_reducible first | exact HB.1 | apply below_alloc | apply pw_below_drewN | apply below_drew1 | refine below_set ?_ GE155.1 | refine below_set ?_ GE156.1 | refine below_set ?_ GE158.1) | exact HB.1))))
          (case aL => have := LMc21.1; omega)
          intro v173 w35 ho hb hg hat
          rw [← Ny172.1] at ho
          have n0_ := Aside0.mk (blk_grown (g := gb155) (o := .cells #[.slice (some ad159) l0_0.length c0_0, .slice (some ad160) l0_1.length c0_1] 28 (0, 0)) (by (with_reducible repeat (first | refine blk_drewN ?_ _ | refine blk_drew ?_ | refine blk_alloc ?_ _)); exact BK155.1) hg (Kd.R_ne Q159_1.1 BK155.1 (by decide)))
          have n1_ := Aside0.mk (blk_grown (g := gb156) (o := .cells #[.slice none 0 0, .slice none 0 0] 28 (0, 0)) (by (with_reducible repeat (first | refine blk_drewN ?_ _ | refine blk_drew ?_ | refine blk_alloc ?_ _)); exact BK156.1) hg (Kd.R_ne Q159_1.1 BK156.1 (by decide)))
          have n2_ := Aside0.mk (blk_grown (g := gb158) (o := .cells #[.slice Ao25 x159000_1.length co25, .slice Ao26 x159001_1.length co26] 28 (0, 0)) (by (with_reducible repeat (first | refine blk_drewN ?_ _ | refine blk_drew ?_ | refine blk_alloc ?_ _)); exact BK158.1) hg (Kd.R_ne Q159_1.1 BK158.1 (by decide)))
          have n3_ := Aside0.mk (Kd.R_after (ok := (fun k_ => some k_ ≠ (v167 : Value).ownBlock ∧ some k_ ≠ (.slice Ao36 y169.length co36 : Value).ownBlock)) (by (with_reducible repeat (first | apply Kd.R_alloc | apply Kd.R_drewN | apply Kd.R_drew)); exact Kd.R_mono HO165.1 (fun _ hk => ⟨⟨hk.1, hk.2.1⟩, hk.2.2⟩)) hg hat)
          have n4_ := Aside0.mk (Kd.R_after (ok := (fun k_ => some k_ ≠ (v164 : Value).ownBlock ∧ some k_ ≠ (.slice Ao36 y169.length co36 : Value).ownBlock)) (by (with_reducible repeat (first | apply Kd.R_alloc | apply Kd.R_drewN | apply Kd.R_drew)); exact Kd.R_mono HO168.1 (fun _ hk => ⟨⟨hk.1, hk.2.1⟩, hk.2.2⟩)) hg hat)
          have n5_ := Aside0.mk (Kd.R_after (ok := (fun k_ => some k_ ≠ (v164 : Value).ownBlock ∧ some k_ ≠ (v167 : Value).ownBlock)) (by (with_reducible repeat (first | apply Kd.R_alloc | apply Kd.R_drewN | apply Kd.R_drew)); exact Kd.R_mono HO171.1 (fun _ hk => ⟨⟨hk.1, hk.2.1⟩, hk.2.2⟩)) hg hat)
          have n6_ := Aside0.mk (hb)
          have n7_ := Aside0.mk (ho)
          clear BK155
          clear BK156
          clear BK158
          clear HO165
          clear HO168
          clear HO171
          clear HB
          clear Q159_1
          have BK155 := n0_
          have BK156 := n1_
          have BK158 := n2_
          have HO165 := n3_
          have HO168 := n4_
          have HO171 := n5_
          have HB := n6_
          have HO174 := n7_
          clear n0_ n1_ n2_ n3_ n4_ n5_ n6_ n7_
          clear ho hb hg hat
          obtain ⟨Ao37, co37, eo37⟩ := Kd.R_slice HO168.1
          (first | subst eo37 | (injection eo37 with f1_ f2_ f3_; have f4_ := f1_.symm; have f5_ := f3_.symm; clear f1_ f2_ f3_; subst f4_; subst f5_))
          obtain ⟨Ao39, co39, eo39⟩ := Kd.R_slice HO174.1
          (first | subst eo39 | (injection eo39 with f1_ f2_ f3_; have f4_ := f1_.symm; have f5_ := f3_.symm; clear f1_ f2_ f3_; subst f4_; subst f5_))
          refine hK.out _ _ ⟨(blk_cell BK158.1 0).trans rfl, (blk_cell BK158.1 1).trans rfl⟩ (fun hHeld => ?_)
          clear hK K
          refine norm_ (a' := ?_) ?_ ?_
          rotate_left
          ·show Act.put _ (some 44) _ = _
           simp only [Act.put, List.setIfInBounds_toArray, List.set_cons_zero, List.set_cons_succ, i64_w, i32_w]
           rfl
          refine last_ (i := 11) (N := none) #[true, true, true, true, true, true, true, true, true, true, true, true, false, false] rfl rfl (one_of HT_.1 (by kernel_rfl)) (by decide) (fun K hK => ?_)
          have hs38 : w35.cell? ⟨gb158, 0, none⟩ = some (.slice Ao25 x159000_1.length co25) := (blk_cell BK158.1 0).trans rfl
          have hfs38 := blk_frozen BK158.1 0
          have hns38_0 := NB155_158.1
          have hns38_1 := NB156_158.1
          have hms38_0 := NB158_155.1
          have hms38_1 := NB158_156.1
          refine skip_ (w1 := ?_) (by rfl) rfl ?_ ?_
          rotate_left
          ·go_simp
           rfl
          refine hK.out _ _ ?_
          clear hK K
          refine pure_ (i := 12) (N := some 46) (v := ?_) (a' := ?_) #[true, true, true, true, true, true, true, true, true, true, true, true, true, false] rfl rfl (any_of HT_.1 (by kernel_rfl)) (fun _ _ _ h => h) (Or.inl ⟨by rfl, ?_⟩) ?_ ?_
          rotate_left
          ·intro w'
           go_simp
           with_reducible rfl
          rotate_left
          ·simp only [Act.put, List.setIfInBounds_toArray, List.set_cons_zero, List.set_cons_succ, i64_w, i32_w]
           rfl
          refine last_ (i := 13) (N := none) #[true, true, true, true, true, true, true, true, true, true, true, true, true, true] rfl rfl (one_of HT_.1 (by kernel_rfl)) (by decide) (fun K hK => ?_)
          have hs40 : w35.cell? ⟨gb158, 1, none⟩ = some (.slice Ao26 x159001_1.length co26) := (blk_cell BK158.1 1).trans rfl
          have hfs40 := blk_frozen BK158.1 1
          have hns40_0 := NB155_158.1
          have hns40_1 := NB156_158.1
          have hms40_0 := NB158_155.1
          have hms40_1 := NB158_156.1
          refine skip_ (w1 := ?_) (by rfl) rfl ?_ ?_
          rotate_left
          ·go_simp
           rfl
          refine hK.out _ _ ?_
          clear hK K
          refine done_ (done_of HT_.1 (by kernel_rfl)) ?_
          try go_wp2
          go_roundg k1
          case measure => have := HK1.1; omega
          case rel => exact ⟨w, ts, (wrap64 (x19_1 + 1)), (y166), (y172), (.slice Ao37 y166.length co37), (.slice Ao39 y172.length co39), (by first | rfl | (simp; done) | (simp [*]; done) | (simp [Go.IntWalk.i64_left]; done)), H', ⟨by have := HK1.1; omega⟩, ⟨by (with_reducible repeat (first | apply Kd.R_alloc | apply Kd.R_drewN | apply Kd.R_drew)); exact Kd.R_mono (Kd.R_far (p := ⟨gb158, 1, none⟩) (Kd.R_far (p := ⟨gb158, 0, none⟩) (Kd.R_types HO168.1 BK158.1 (by decide)) (fun _ hk => hk.2) (.slice Ao37 y166.length co37)) (fun _ hk => hk.2) (.slice Ao39 y172.length co39)) (fun _ hk => hk.1.2)⟩, ⟨by (with_reducible repeat (first | apply Kd.R_alloc | apply Kd.R_drewN | apply Kd.R_drew)); exact Kd.R_mono (Kd.R_far (p := ⟨gb158, 1, none⟩) (Kd.R_far (p := ⟨gb158, 0, none⟩) (Kd.R_types HO174.1 BK158.1 (by decide)) (fun _ hk => hk.2) (.slice Ao37 y166.length co37)) (fun _ hk => hk.2) (.slice Ao39 y172.length co39)) (fun _ hk => hk.1.2.1)⟩, ⟨by (with_reducible repeat (first | refine blk_drewN ?_ _ | refine blk_drew ?_ | refine blk_alloc ?_ _)); refine blk_far ?_ NB155_158.1 _; (with_reducible repeat (first | refine blk_drewN ?_ _ | refine blk_drew ?_ | refine blk_alloc ?_ _)); refine blk_far ?_ NB155_158.1 _; (with_reducible repeat (first | refine blk_drewN ?_ _ | refine blk_drew ?_ | refine blk_alloc ?_ _)); exact BK155.1⟩, ⟨by (with_reducible repeat (first | refine blk_drewN ?_ _ | refine blk_drew ?_ | refine blk_alloc ?_ _)); refine blk_far ?_ NB156_158.1 _; (with_reducible repeat (first | refine blk_drewN ?_ _ | refine blk_drew ?_ | refine blk_alloc ?_ _)); refine blk_far ?_ NB156_158.1 _; (with_reducible repeat (first | refine blk_drewN ?_ _ | refine blk_drew ?_ | refine blk_alloc ?_ _)); exact BK156.1⟩, ⟨by (with_reducible repeat (first | refine blk_drewN ?_ _ | refine blk_drew ?_ | refine blk_alloc ?_ _)); refine blk_put (cs := #[.slice Ao37 y166.length co37, .slice Ao26 x159001_1.length co26]) ?_ 1 _ rfl; (with_reducible repeat (first | refine blk_drewN ?_ _ | refine blk_drew ?_ | refine blk_alloc ?_ _)); refine blk_put (cs := #[.slice Ao25 x159000_1.length co25, .slice Ao26 x159001_1.length co26]) ?_ 0 _ rfl; (with_reducible repeat (first | refine blk_drewN ?_ _ | refine blk_drew ?_ | refine blk_alloc ?_ _)); exact BK158.1⟩, HEL, ⟨by repeat (first | (with_reducible first | exact HB.1 | apply below_alloc | apply pw_below_drewN | apply below_drew1 | refine below_set ?_ GE155.1 | refine below_set ?_ GE156.1 | refine below_set ?_ GE158.1) | exact HB.1)⟩⟩
         ·rw [if_neg c21] at H
          exact absurd H (by simp)
        ·rw [if_neg c20] at H
         exact absurd H (by simp)
       ·rw [if_neg c18] at H
        exact absurd H (by simp)
      ·rw [if_neg c17] at H
       exact absurd H (by simp)
     ·rw [if_neg c16] at H
      exact absurd H (by simp)
    ·rw [if_neg c15] at H
     have c15b0 : decide (x19_1 < (l0_0.length : Int)) = false := decide_eq_false c15
     clear c15
     replace H := Option.bind_eq_some_iff.mp H
     obtain ⟨t175, A410, H⟩ := H
     replace H : (if t175 = true then (some (x159000_1, x159001_1, true)) else (some (([] : List Int), ([] : List Int), false))) = some (r1, r2, r3) := H
     have A41 := Aside0.mk A410
     clear A410
     by_cases c42 : t175 = true
     ·subst c42
      have H1 : (some (x159000_1, x159001_1, true)) = some (r1, r2, r3) := by rw [if_pos rfl] at H; exact H
      clear H
      have H := H1
      clear H1
      simp only [Option.some.injEq, Prod.mk.injEq] at H
      obtain ⟨rfl, rfl, rfl⟩ := H
      have hnb43 := NB158_155.1
      have hnc43 := NB155_158.1
      have hnb44 := NB158_156.1
      have hnc44 := NB156_158.1
      have hcz45_0 : wr.cell? ⟨gb158, 0, none⟩ = some (u159000) := (blk_cell BK158.1 0).trans rfl
      have hcz45_1 : wr.cell? ⟨gb158, 1, none⟩ = some (u159001) := (blk_cell BK158.1 1).trans rfl
      have hfz45_0 := blk_frozen BK158.1 0
      have hfz45_1 := blk_frozen BK158.1 1
      obtain ⟨Ao46, co46, eo46⟩ := Kd.R_slice Q159_0.1
      subst eo46
      obtain ⟨Ao47, co47, eo47⟩ := Kd.R_slice Q159_1.1
      subst eo47
      go_wp2_with (first | ((with_reducible refine gate_callee (f := 48) rfl ?_); refine goesL_ (some 49) rfl rfl Try.func48 (by kernel_rfl) rfl #[.agg #[.slice Ao46 x159000_1.length co46, .slice Ao47 x159001_1.length co47]] rfl (by (try simp only [List.map_toArray, List.map_cons, List.map_nil]); first | done | rfl | (simp only [List.length_drop, List.length_take]; rfl)) ?_; (with_reducible refine (impl_AreGloves.calls k1 _ _ x159000_1 _ _ x159001_1 true _ ?side1 ?side2 ?side3 ?side4 A41.1).mono ?_); (case side1 => repeat (first | exact (Kd.R_reads' Q159_0.1).2.2 | (with_reducible refine Kd.C_alloc ?_ _) | (with_reducible refine Kd.C_drewN ?_ _) | (with_reducible refine Kd.C_drew ?_))); (case side2 => exact (Kd.R_reads' Q159_0.1).2.1); (case side3 => repeat (first | exact (Kd.R_reads' Q159_1.1).2.2 | (with_reducible refine Kd.C_alloc ?_ _) | (with_reducible refine Kd.C_drewN ?_ _) | (with_reducible refine Kd.C_drew ?_))); (case side4 => exact (Kd.R_reads' Q159_1.1).2.1); rintro e w48 ⟨rfl, hb⟩; refine ⟨_, rfl, ?_⟩; have n0_ := Aside0.mk (Kd.R_below (by (with_reducible repeat (first | apply Kd.R_alloc | apply Kd.R_drewN | apply Kd.R_drew)); exact Q159_0.1) hb); have n1_ := Aside0.mk (Kd.R_below (by (with_reducible repeat (first | apply Kd.R_alloc | apply Kd.R_drewN | apply Kd.R_drew)); exact Q159_1.1) hb); have n2_ := Aside0.mk (blk_below (g := gb155) (o := .cells #[.slice A0_0 l0_0.length c0_0, .slice A0_1 l0_1.length c0_1] 28 (0, 0)) (by (with_reducible repeat (first | refine blk_drewN ?_ _ | refine blk_drew ?_ | refine blk_alloc ?_ _)); exact BK155.1) hb); have n3_ := Aside0.mk (blk_below (g := gb156) (o := .cells #[.slice none 0 0, .slice none 0 0] 28 (0, 0)) (by (with_reducible repeat (first | refine blk_drewN ?_ _ | refine blk_drew ?_ | refine blk_alloc ?_ _)); exact BK156.1) hb); have n4_ := Aside0.mk (blk_below (g := gb158) (o := .cells #[.slice Ao46 x159000_1.length co46, .slice Ao47 x159001_1.length co47] 28 (0, 0)) (by (with_reducible repeat (first | refine blk_drewN ?_ _ | refine blk_drew ?_ | refine blk_alloc ?_ _)); exact BK158.1) hb); have n5_ := Aside0.mk (below_step (by repeat (first | (with_reducible first | exact HB.1 | apply below_alloc | apply pw_below_drewN | apply below_drew1 | refine below_set ?_ GE155.1 | refine below_set ?_ GE156.1 | refine below_set ?_ GE158.1) | exact HB.1)) hb); clear Q159_0; clear Q159_1; clear BK155; clear BK156; clear BK158; clear HB; have Q159_0 := n0_; have Q159_1 := n1_; have BK155 := n2_; have BK156 := n3_; have BK158 := n4_; have HB := n5_; clear n0_ n1_ n2_ n3_ n4_ n5_; (try clear hb); (try clear hb2); (try clear hk); (try clear hi); have hcz49_0 : w48.cell? ⟨gb158, 0, none⟩ = some (.slice Ao46 x159000_1.length co46) := (blk_cell BK158.1 0).trans rfl; have hcz49_1 : w48.cell? ⟨gb158, 1, none⟩ = some (.slice Ao47 x159001_1.length co47) := (blk_cell BK158.1 1).trans rfl; have hfz49_0 := blk_frozen BK158.1 0; have hfz49_1 := blk_frozen BK158.1 1; have hnb50 := NB156_155.1; have hnc50 := NB155_156.1; have hcz51_0 : w48.cell? ⟨gb156, 0, none⟩ = some (.slice none 0 0) := (blk_cell BK156.1 0).trans rfl; have hcz51_1 : w48.cell? ⟨gb156, 1, none⟩ = some (.slice none 0 0) := (blk_cell BK156.1 1).trans rfl; have hfz51_0 := blk_frozen BK156.1 0; have hfz51_1 := blk_frozen BK156.1 1))
      refine bodyPost_ret (results_ct rfl _ _ gb156 28 #[.slice Ao46 x159000_1.length co46, .slice Ao47 x159001_1.length co47] (0, 0) _ rfl (by (with_reducible repeat (first | refine blk_drewN ?_ _ | refine blk_drew ?_ | refine blk_alloc ?_ _)); refine blk_put (cs := #[.slice Ao46 x159000_1.length co46, .slice none 0 0]) ?_ 1 _ rfl; (with_reducible repeat (first | refine blk_drewN ?_ _ | refine blk_drew ?_ | refine blk_alloc ?_ _)); refine blk_put (cs := #[.slice none 0 0, .slice none 0 0]) ?_ 0 _ rfl; (with_reducible repeat (first | refine blk_drewN ?_ _ | refine blk_drew ?_ | refine blk_alloc ?_ _)); exact BK156.1) Try.underlying28 rfl (by kernel_rfl)) rfl ?_
      exact ⟨w, ⟨_, HEL.1⟩, _, _, by first | rfl | (simp [errW_none, errW_some] <;> rfl) | (simp [Go.IntWalk.i64_left]; done) | (simp [*, errW_none, errW_some] <;> rfl), by (with_reducible repeat (first | apply Kd.R_alloc | apply Kd.R_drewN | apply Kd.R_drew)); exact Kd.R_mono (Kd.R_far (p := ⟨gb156, 1, none⟩) (Kd.R_far (p := ⟨gb156, 0, none⟩) (Kd.R_types Q159_0.1 BK156.1 (by decide)) (fun _ hk => hk.2) (.slice Ao46 x159000_1.length co46)) (fun _ hk => hk.2) (.slice Ao47 x159001_1.length co47)) (fun _ hk => hk.1), by (with_reducible repeat (first | apply Kd.R_alloc | apply Kd.R_drewN | apply Kd.R_drew)); exact Kd.R_mono (Kd.R_far (p := ⟨gb156, 1, none⟩) (Kd.R_far (p := ⟨gb156, 0, none⟩) (Kd.R_types Q159_1.1 BK156.1 (by decide)) (fun _ hk => hk.2) (.slice Ao46 x159000_1.length co46)) (fun _ hk => hk.2) (.slice Ao47 x159001_1.length co47)) (fun _ hk => hk.1), by repeat (first | (with_reducible first | exact HB.1 | apply below_alloc | apply pw_below_drewN | apply below_drew1 | refine below_set ?_ GE155.1 | refine below_set ?_ GE156.1 | refine below_set ?_ GE158.1) | exact HB.1)⟩
     ·replace c42 := Bool.eq_false_iff.mpr c42
      subst c42
      have H1 : (some (([] : List Int), ([] : List Int), false)) = some (r1, r2, r3) := by rw [if_neg (show ¬ (false = true) by decide)] at H; exact H
      clear H
      have H := H1
      clear H1
      simp only [Option.some.injEq, Prod.mk.injEq] at H
      obtain ⟨rfl, rfl, rfl⟩ := H
      have hnb52 := NB158_155.1
      have hnc52 := NB155_158.1
      have hnb53 := NB158_156.1
      have hnc53 := NB156_158.1
      have hcz54_0 : wr.cell? ⟨gb158, 0, none⟩ = some (u159000) := (blk_cell BK158.1 0).trans rfl
      have hcz54_1 : wr.cell? ⟨gb158, 1, none⟩ = some (u159001) := (blk_cell BK158.1 1).trans rfl
      have hfz54_0 := blk_frozen BK158.1 0
      have hfz54_1 := blk_frozen BK158.1 1
      obtain ⟨Ao55, co55, eo55⟩ := Kd.R_slice Q159_0.1
      subst eo55
      obtain ⟨Ao56, co56, eo56⟩ := Kd.R_slice Q159_1.1
      subst eo56
      go_wp2_with (first | ((with_reducible refine gate_callee (f := 48) rfl ?_); refine goesL_ (some 49) rfl rfl Try.func48 (by kernel_rfl) rfl #[.agg #[.slice Ao55 x159000_1.length co55, .slice Ao56 x159001_1.length co56]] rfl (by (try simp only [List.map_toArray, List.map_cons, List.map_nil]); first | done | rfl | (simp only [List.length_drop, List.length_take]; rfl)) ?_; (with_reducible refine (impl_AreGloves.calls k1 _ _ x159000_1 _ _ x159001_1 false _ ?side1 ?side2 ?side3 ?side4 A41.1).mono ?_); (case side1 => repeat (first | exact (Kd.R_reads' Q159_0.1).2.2 | (with_reducible refine Kd.C_alloc ?_ _) | (with_reducible refine Kd.C_drewN ?_ _) | (with_reducible refine Kd.C_drew ?_))); (case side2 => exact (Kd.R_reads' Q159_0.1).2.1); (case side3 => repeat (first | exact (Kd.R_reads' Q159_1.1).2.2 | (with_reducible refine Kd.C_alloc ?_ _) | (with_reducible refine Kd.C_drewN ?_ _) | (with_reducible refine Kd.C_drew ?_))); (case side4 => exact (Kd.R_reads' Q159_1.1).2.1); rintro e w57 ⟨rfl, hb⟩; refine ⟨_, rfl, ?_⟩; have n0_ := Aside0.mk (Kd.R_below (by (with_reducible repeat (first | apply Kd.R_alloc | apply Kd.R_drewN | apply Kd.R_drew)); exact Q159_0.1) hb); have n1_ := Aside0.mk (Kd.R_below (by (with_reducible repeat (first | apply Kd.R_alloc | apply Kd.R_drewN | apply Kd.R_drew)); exact Q159_1.1) hb); have n2_ := Aside0.mk (blk_below (g := gb155) (o := .cells #[.slice A0_0 l0_0.length c0_0, .slice A0_1 l0_1.length c0_1] 28 (0, 0)) (by (with_reducible repeat (first | refine blk_drewN ?_ _ | refine blk_drew ?_ | refine blk_alloc ?_ _)); exact BK155.1) hb); have n3_ := Aside0.mk (blk_below (g := gb156) (o := .cells #[.slice none 0 0, .slice none 0 0] 28 (0, 0)) (by (with_reducible repeat (first | refine blk_drewN ?_ _ | refine blk_drew ?_ | refine blk_alloc ?_ _)); exact BK156.1) hb); have n4_ := Aside0.mk (blk_below (g := gb158) (o := .cells #[.slice Ao55 x159000_1.length co55, .slice Ao56 x159001_1.length co56] 28 (0, 0)) (by (with_reducible repeat (first | refine blk_drewN ?_ _ | refine blk_drew ?_ | refine blk_alloc ?_ _)); exact BK158.1) hb); have n5_ := Aside0.mk (below_step (by repeat (first | (with_reducible first | exact HB.1 | apply below_alloc | apply pw_below_drewN | apply below_drew1 | refine below_set ?_ GE155.1 | refine below_set ?_ GE156.1 | refine below_set ?_ GE158.1) | exact HB.1)) hb); clear Q159_0; clear Q159_1; clear BK155; clear BK156; clear BK158; clear HB; have Q159_0 := n0_; have Q159_1 := n1_; have BK155 := n2_; have BK156 := n3_; have BK158 := n4_; have HB := n5_; clear n0_ n1_ n2_ n3_ n4_ n5_; (try clear hb); (try clear hb2); (try clear hk); (try clear hi); have hnb58 := NB156_155.1; have hnc58 := NB155_156.1; have hcz59_0 : w57.cell? ⟨gb156, 0, none⟩ = some (.slice none 0 0) := (blk_cell BK156.1 0).trans rfl; have hcz59_1 : w57.cell? ⟨gb156, 1, none⟩ = some (.slice none 0 0) := (blk_cell BK156.1 1).trans rfl; have hfz59_0 := blk_frozen BK156.1 0; have hfz59_1 := blk_frozen BK156.1 1))
      refine bodyPost_ret (results_ct rfl _ _ gb156 28 #[.slice none 0 0, .slice none 0 0] (0, 0) _ rfl (by (with_reducible repeat (first | refine blk_drewN ?_ _ | refine blk_drew ?_ | refine blk_alloc ?_ _)); refine blk_put (cs := #[.slice none 0 0, .slice none 0 0]) ?_ 1 _ rfl; (with_reducible repeat (first | refine blk_drewN ?_ _ | refine blk_drew ?_ | refine blk_alloc ?_ _)); refine blk_put (cs := #[.slice none 0 0, .slice none 0 0]) ?_ 0 _ rfl; (with_reducible repeat (first | refine blk_drewN ?_ _ | refine blk_drew ?_ | refine blk_alloc ?_ _)); exact BK156.1) Try.underlying28 rfl (by kernel_rfl)) rfl ?_
      exact ⟨w, ⟨_, HEL.1⟩, _, _, by first | rfl | (simp [errW_none, errW_some] <;> rfl) | (simp [Go.IntWalk.i64_left]; done) | (simp [*, errW_none, errW_some] <;> rfl), by first | exact Kd.R_nil _ _ _ _ _ | exact Kd.N_nil _ _ _ _ _ | exact Kd.V_nil _ _ _ _ _ | exact Kd.Q_nil _ _ _ _ _ | exact Kd.S_nil _ _ _ _ _, by first | exact Kd.R_nil _ _ _ _ _ | exact Kd.N_nil _ _ _ _ _ | exact Kd.V_nil _ _ _ _ _ | exact Kd.Q_nil _ _ _ _ _ | exact Kd.S_nil _ _ _ _ _, by repeat (first | (with_reducible first | exact HB.1 | apply below_alloc | apply pw_below_drewN | apply below_drew1 | refine below_set ?_ GE155.1 | refine below_set ?_ GE156.1 | refine below_set ?_ GE158.1) | exact HB.1)⟩
 ·replace c4 := Bool.eq_false_iff.mpr c4
  subst c4
  have H1 : (some (([] : List Int), ([] : List Int), false)) = some (r1, r2, r3) := by rw [if_neg (show ¬ (false = true) by decide)] at H; exact H
  clear H
  have H := H1
  clear H1
  simp only [Option.some.injEq, Prod.mk.injEq] at H
  obtain ⟨rfl, rfl, rfl⟩ := H
  go_enter Try.func63, Try.ntmps63
  go_wp2_with (first | ((with_reducible refine gate_dst (N := 2) rfl ?_); refine box_event ?hg (N := 2) ?hd (cs := #[.slice A0_0 l0_0.length c0_0, .slice A0_1 l0_1.length c0_1]) (t := 28) ?hr ?_; (case hd => rfl); (case hg => rfl); (case hr => first | (go_simp; done) | (go_simp; rfl)); intro gb155 hg w60 hbox hb; have n0_ := Aside0.mk (below_step (by repeat (first | (with_reducible first | exact HB.1 | apply below_alloc | apply pw_below_drewN | apply below_drew1) | exact HB.1)) hb); have n1_ := Aside0.mk (hbox); have n2_ := Aside0.mk ((by rw [hg]; exact (below_size (by repeat (first | (with_reducible first | exact HB.1 | apply below_alloc | apply pw_below_drewN | apply below_drew1) | exact HB.1))) : w.heap.size ≤ gb155)); have n3_ := Aside0.mk ((by rw [hg]; exact (below_size (by repeat (first | (with_reducible first | exact HB.1 | apply below_alloc | apply pw_below_drewN | apply below_drew1) | exact HB.1))) : w.heap.size ≤ gb155)); clear HB; have HB := n0_; have BK155 := n1_; have GW155 := n2_; have GE155 := n3_; clear n0_ n1_ n2_ n3_; clear hb hbox hg) | ((with_reducible refine gate_dst (N := 4) rfl ?_); refine box_event ?hg (N := 4) ?hd (cs := #[.slice none 0 0, .slice none 0 0]) (t := 28) ?hr ?_; (case hd => rfl); (case hg => rfl); (case hr => first | (go_simp; done) | (go_simp; rfl)); intro gb156 hg w61 hbox hb; have n0_ := Aside0.mk (blk_below (g := gb155) (o := .cells #[.slice A0_0 l0_0.length c0_0, .slice A0_1 l0_1.length c0_1] 28 (0, 0)) (by (with_reducible repeat (first | refine blk_drewN ?_ _ | refine blk_drew ?_ | refine blk_alloc ?_ _)); exact BK155.1) hb); have n1_ := Aside0.mk (below_step (by repeat (first | (with_reducible first | exact HB.1 | apply below_alloc | apply pw_below_drewN | apply below_drew1 | refine below_set ?_ GE155.1) | exact HB.1)) hb); have n2_ := Aside0.mk (hbox); have n3_ := Aside0.mk ((by rw [hg]; exact (below_size (by repeat (first | (with_reducible first | exact HB.1 | apply below_alloc | apply pw_below_drewN | apply below_drew1 | refine below_set ?_ GE155.1) | exact HB.1))) : w.heap.size ≤ gb156)); have n4_ := Aside0.mk ((by rw [hg]; exact (below_size (by repeat (first | (with_reducible first | exact HB.1 | apply below_alloc | apply pw_below_drewN | apply below_drew1 | refine below_set ?_ GE155.1) | exact HB.1))) : w.heap.size ≤ gb156)); have n5_ := Aside0.mk ((by rw [hg]; exact Nat.ne_of_lt (blk_lt (g := gb155) (o := .cells #[.slice A0_0 l0_0.length c0_0, .slice A0_1 l0_1.length c0_1] 28 (0, 0)) (by (with_reducible repeat (first | refine blk_drewN ?_ _ | refine blk_drew ?_ | refine blk_alloc ?_ _)); exact BK155.1)) : gb155 ≠ gb156)); have n6_ := Aside0.mk ((by rw [hg]; exact Nat.ne_of_gt (blk_lt (g := gb155) (o := .cells #[.slice A0_0 l0_0.length c0_0, .slice A0_1 l0_1.length c0_1] 28 (0, 0)) (by (with_reducible repeat (first | refine blk_drewN ?_ _ | refine blk_drew ?_ | refine blk_alloc ?_ _)); exact BK155.1)) : gb156 ≠ gb155)); clear BK155; clear HB; have BK155 := n0_; have HB := n1_; have BK156 := n2_; have GW156 := n3_; have GE156 := n4_; have NB155_156 := n5_; have NB156_155 := n6_; clear n0_ n1_ n2_ n3_ n4_ n5_ n6_; clear hb hbox hg; have hnb62 := NB155_156.1; have hnc62 := NB156_155.1; have hcz63_0 : w61.cell? ⟨gb155, 0, none⟩ = some (.slice A0_0 l0_0.length c0_0) := (blk_cell BK155.1 0).trans rfl; have hcz63_1 : w61.cell? ⟨gb155, 1, none⟩ = some (.slice A0_1 l0_1.length c0_1) := (blk_cell BK155.1 1).trans rfl; have hfz63_0 := blk_frozen BK155.1 0; have hfz63_1 := blk_frozen BK155.1 1) | ((with_reducible refine gate_callee (f := 48) rfl ?_); refine goesL_ (some 12) rfl rfl Try.func48 (by kernel_rfl) rfl #[.agg #[.slice A0_0 l0_0.length c0_0, .slice A0_1 l0_1.length c0_1]] rfl (by (try simp only [List.map_toArray, List.map_cons, List.map_nil]); first | done | rfl | (simp only [List.length_drop, List.length_take]; rfl)) ?_; (with_reducible refine (impl_AreGloves.calls k _ _ l0_0 _ _ l0_1 false _ ?side1 ?side2 ?side3 ?side4 A3.1).mono ?_); (case side1 => repeat (first | exact (Kd.C_below HR0_0.1 HB.1) | (with_reducible refine Kd.C_alloc ?_ _) | (with_reducible refine Kd.C_drewN ?_ _) | (with_reducible refine Kd.C_drew ?_))); (case side2 => exact HC0_0.1); (case side3 => repeat (first | exact (Kd.C_below HR0_1.1 HB.1) | (with_reducible refine Kd.C_alloc ?_ _) | (with_reducible refine Kd.C_drewN ?_ _) | (with_reducible refine Kd.C_drew ?_))); (case side4 => exact HC0_1.1); rintro e w64 ⟨rfl, hb⟩; refine ⟨_, rfl, ?_⟩; have n0_ := Aside0.mk (blk_below (g := gb155) (o := .cells #[.slice A0_0 l0_0.length c0_0, .slice A0_1 l0_1.length c0_1] 28 (0, 0)) (by (with_reducible repeat (first | refine blk_drewN ?_ _ | refine blk_drew ?_ | refine blk_alloc ?_ _)); exact BK155.1) hb); have n1_ := Aside0.mk (blk_below (g := gb156) (o := .cells #[.slice none 0 0, .slice none 0 0] 28 (0, 0)) (by (with_reducible repeat (first | refine blk_drewN ?_ _ | refine blk_drew ?_ | refine blk_alloc ?_ _)); exact BK156.1) hb); have n2_ := Aside0.mk (below_step (by repeat (first | (with_reducible first | exact HB.1 | apply below_alloc | apply pw_below_drewN | apply below_drew1 | refine below_set ?_ GE155.1 | refine below_set ?_ GE156.1) | exact HB.1)) hb); clear BK155; clear BK156; clear HB; have BK155 := n0_; have BK156 := n1_; have HB := n2_; clear n0_ n1_ n2_; (try clear hb); (try clear hb2); (try clear hk); (try clear hi); have hcz65_0 : w64.cell? ⟨gb156, 0, none⟩ = some (.slice none 0 0) := (blk_cell BK156.1 0).trans rfl; have hcz65_1 : w64.cell? ⟨gb156, 1, none⟩ = some (.slice none 0 0) := (blk_cell BK156.1 1).trans rfl; have hfz65_0 := blk_frozen BK156.1 0; have hfz65_1 := blk_frozen BK156.1 1))
  refine bodyPost_ret (results_ct rfl _ _ gb156 28 #[.slice none 0 0, .slice none 0 0] (0, 0) _ rfl (by (with_reducible repeat (first | refine blk_drewN ?_ _ | refine blk_drew ?_ | refine blk_alloc ?_ _)); refine blk_put (cs := #[.slice none 0 0, .slice none 0 0]) ?_ 1 _ rfl; (with_reducible repeat (first | refine blk_drewN ?_ _ | refine blk_drew ?_ | refine blk_alloc ?_ _)); refine blk_put (cs := #[.slice none 0 0, .slice none 0 0]) ?_ 0 _ rfl; (with_reducible repeat (first | refine blk_drewN ?_ _ | refine blk_drew ?_ | refine blk_alloc ?_ _)); exact BK156.1) Try.underlying28 rfl (by kernel_rfl)) rfl ?_
  exact ⟨w, ⟨_, HEL.1⟩, _, _, by first | rfl | (simp [errW_none, errW_some] <;> rfl) | (simp [Go.IntWalk.i64_left]; done) | (simp [*, errW_none, errW_some] <;> rfl), by first | exact Kd.R_nil _ _ _ _ _ | exact Kd.N_nil _ _ _ _ _ | exact Kd.V_nil _ _ _ _ _ | exact Kd.Q_nil _ _ _ _ _ | exact Kd.S_nil _ _ _ _ _, by first | exact Kd.R_nil _ _ _ _ _ | exact Kd.N_nil _ _ _ _ _ | exact Kd.V_nil _ _ _ _ _ | exact Kd.Q_nil _ _ _ _ _ | exact Kd.S_nil _ _ _ _ _, by repeat (first | (with_reducible first | exact HB.1 | apply below_alloc | apply pw_below_drewN | apply below_drew1 | refine below_set ?_ GE155.1 | refine below_set ?_ GE156.1) | exact HB.1)⟩
/-- What WorstGloves' closure does: s: how many pairs are left. -/
def clW (s x y : Int) : Option (Int × Int × Int) := some (if x < y then (mn (mn x y) s, y, wrap64 (s - mn (mn x y) s)) else (x, mn (mn x y) s, wrap64 (s - mn (mn x y) s)))
set_option maxHeartbeats 4000000 in
set_option maxRecDepth 100000 in
theorem clW_calls (bi : Nat) (s x y a b s' : Int) (W : World) (hcl : clW s x y = some (a, b, s')) (hc : W.cell? ⟨bi, 0, none⟩ = some (.int .i64 s)) (hf : W.frozen? ⟨bi, 0, none⟩ = false) :
    Calls Try.prog 78 #[.int .i64 x, .int .i64 y, .pointer (some ⟨bi, 0, none⟩)] W fun e W' => e = .returned (.tuple #[.int .i64 a, .int .i64 b]) ∧ ∃ nd, W' = (W.setCell ⟨bi, 0, none⟩ (.int .i64 s')).drewN nd := by
  unfold clW at hcl
  have hcl := Option.some.inj hcl
  by_cases h : x < y
  · have e1 : (if y < x then y else x) = x := if_neg (by omega)
    rw [if_pos h] at hcl
    by_cases h2 : s < x
    · have hm : mn (mn x y) s = s := by unfold mn; rw [e1, if_pos h2]
      rw [hm] at hcl
      clear hm
      simp only [Prod.mk.injEq] at hcl
      obtain ⟨rfl, rfl, rfl⟩ := hcl
      go_enter Try.func78, Try.ntmps78
      go_wp2
      go_ret2
      exact ⟨rfl, 0, by (try rw [Int.sub_self]); rw [show wrap64 0 = 0 by unfold wrap64; omega]; rfl⟩
    · have hm : mn (mn x y) s = x := by unfold mn; rw [e1, if_neg h2]
      rw [hm] at hcl
      clear hm
      simp only [Prod.mk.injEq] at hcl
      obtain ⟨rfl, rfl, rfl⟩ := hcl
      go_enter Try.func78, Try.ntmps78
      go_wp2
      go_ret2
      exact ⟨rfl, 0, rfl⟩
  · rw [if_neg h] at hcl
    by_cases h3 : y < x
    · have e1 : (if y < x then y else x) = y := if_pos h3
      by_cases h2 : s < y
      · have hm : mn (mn x y) s = s := by unfold mn; rw [e1, if_pos h2]
        rw [hm] at hcl
        clear hm
        simp only [Prod.mk.injEq] at hcl
        obtain ⟨rfl, rfl, rfl⟩ := hcl
        go_enter Try.func78, Try.ntmps78
        go_wp2
        go_ret2
        exact ⟨rfl, 0, by (try rw [Int.sub_self]); rw [show wrap64 0 = 0 by unfold wrap64; omega]; rfl⟩
      · have hm : mn (mn x y) s = y := by unfold mn; rw [e1, if_neg h2]
        rw [hm] at hcl
        clear hm
        simp only [Prod.mk.injEq] at hcl
        obtain ⟨rfl, rfl, rfl⟩ := hcl
        go_enter Try.func78, Try.ntmps78
        go_wp2
        go_ret2
        exact ⟨rfl, 0, rfl⟩
    · obtain rfl : x = y := by omega
      have e1 : (if x < x then x else x) = x := if_neg h3
      by_cases h2 : s < x
      · have hm : mn (mn x x) s = s := by unfold mn; rw [e1, if_pos h2]
        rw [hm] at hcl
        clear hm
        simp only [Prod.mk.injEq] at hcl
        obtain ⟨rfl, rfl, rfl⟩ := hcl
        go_enter Try.func78, Try.ntmps78
        go_wp2
        go_ret2
        exact ⟨rfl, 0, by (try rw [Int.sub_self]); rw [show wrap64 0 = 0 by unfold wrap64; omega]; rfl⟩
      · have hm : mn (mn x x) s = x := by unfold mn; rw [e1, if_neg h2]
        rw [hm] at hcl
        clear hm
        simp only [Prod.mk.injEq] at hcl
        obtain ⟨rfl, rfl, rfl⟩ := hcl
        go_enter Try.func78, Try.ntmps78
        go_wp2
        go_ret2
        exact ⟨rfl, 0, rfl⟩
def impl_WorstGloves.f (k : Nat) (l0_0 : List Int) (l0_1 : List Int) (a1 : Int) : Option (List Int × List Int × Bool) := if a1 < 1 then some ([], [], false) else madeW.f clW k (wrap64 (a1 - 1)) l0_0 l0_1
theorem impl_WorstGloves.mono : ∀ a0 a1 a2 k, LeO (impl_WorstGloves.f k a0 a1 a2) (impl_WorstGloves.f (k + 1) a0 a1 a2) := by
  intro a0 a1 a2 k
  unfold impl_WorstGloves.f
  exact LeO.ite (LeO.refl _) (madeW.mono clW _ _ _ _)
set_option maxHeartbeats 4000000 in
set_option maxRecDepth 100000 in
theorem impl_WorstGloves.calls (k : Nat) (A0_0 : Option Addr) (c0_0 : Nat) (l0_0 : List Int) (A0_1 : Option Addr) (c0_1 : Nat) (l0_1 : List Int) (a1 : Int) (r1 : List Int) (r2 : List Int) (r3 : Bool) (w : World) (hr0_0 : Kd.C (Kd.int .i64) w A0_0 l0_0.length l0_0) (hc0_0 : l0_0.length ≤ c0_0) (hr0_1 : Kd.C (Kd.int .i64) w A0_1 l0_1.length l0_1) (hc0_1 : l0_1.length ≤ c0_1) (h : impl_WorstGloves.f k l0_0 l0_1 a1 = some (r1, r2, r3)) :
    Calls Try.prog 43 #[.agg #[.slice A0_0 l0_0.length c0_0, .slice A0_1 l0_1.length c0_1], .int .i64 a1] w fun e w' => ∃ v0_ v1_ : Value, e = .returned (.tuple #[.agg #[v0_, v1_], .bool r3]) ∧ Kd.R (Kd.int .i64) 3 w' w.heap.size (fun k_ => some k_ ≠ (v1_ : Value).ownBlock) v0_ r1 ∧ Kd.R (Kd.int .i64) 3 w' w.heap.size (fun k_ => some k_ ≠ (v0_ : Value).ownBlock) v1_ r2 ∧ Below w.heap.size w w' := by
  have hu28 := Try.underlying28
  have hmf : ∀ (fn : Fn) (first cap : Array Value) (w : World), (Instr.makeFunc fn first cap).run Try.prog w = .ok (.func fn first cap) w := fun _ _ _ _ => rfl
  unfold impl_WorstGloves.f at h
  by_cases ha : a1 < 1
  · rw [if_pos ha] at h
    simp only [Option.some.injEq, Prod.mk.injEq] at h
    obtain ⟨rfl, rfl, rfl⟩ := h
    clear hr0_0 hr0_1
    go_enter Try.func43, Try.ntmps43
    go_wp2_with (first
      | ((with_reducible refine gate_dst (N := 2) rfl ?_); refine box_event ?hg (N := 2) ?hd (cs := #[.slice A0_0 l0_0.length c0_0, .slice A0_1 l0_1.length c0_1]) (t := 28) ?hr ?_; (case hd => rfl); (case hg => rfl); (case hr => first | (go_simp; done) | (go_simp; rfl)); intro g2 hg2 w2 hk2 hb2; have HG2 := Aside0.mk hg2; have HK2 := Aside0.mk hk2; have HB2 := Aside0.mk hb2; clear hg2 hk2 hb2)
      | ((with_reducible refine gate_dst (N := 4) rfl ?_); refine box_event ?hg (N := 4) ?hd (cs := #[.slice none 0 0, .slice none 0 0]) (t := 28) ?hr ?_; (case hd => rfl); (case hg => rfl); (case hr => first | (go_simp; done) | (go_simp; rfl)); intro g4 hg4 w4 hk4 hb4; have HG4 := Aside0.mk hg4; have HK4 := Aside0.mk hk4; have HB4 := Aside0.mk (below_step HB2.out hb4); obtain ⟨z1, z2, z3, z4⟩ := rest_nilW hk4; clear hg4 hk4 hb4))
    have hge : w.heap.size ≤ g4 := by rw [HG4.out]; exact below_size HB2.out
    refine bodyPost_ret (results_ct rfl _ _ g4 28 #[.slice none 0 0, .slice none 0 0] (0, 0) _ rfl (by refine blk_put (cs := #[.slice none 0 0, .slice none 0 0]) ?_ 1 _ rfl; refine blk_put (cs := #[.slice none 0 0, .slice none 0 0]) ?_ 0 _ rfl; exact HK4.out) Try.underlying28 rfl (by kernel_rfl)) rfl ?_
    exact ⟨_, _, rfl, Kd.R_nil _ _ _ _ _, Kd.R_nil _ _ _ _ _, below_set (below_set HB4.out hge) hge⟩
  · rw [if_neg ha] at h
    have HST : ∀ W, Below w.heap.size w W → Kd.C (Kd.int .i64) W A0_0 l0_0.length l0_0 ∧ Kd.C (Kd.int .i64) W A0_1 l0_1.length l0_1 := fun W hW => ⟨Kd.C_below hr0_0 hW, Kd.C_below hr0_1 hW⟩
    have HST := Aside0.mk HST
    have HH := Aside0.mk h
    clear h hr0_0 hr0_1
    go_enter Try.func43, Try.ntmps43
    go_wp2_with (first
      | ((with_reducible refine gate_dst (N := 2) rfl ?_); refine box_event ?hg (N := 2) ?hd (cs := #[.slice A0_0 l0_0.length c0_0, .slice A0_1 l0_1.length c0_1]) (t := 28) ?hr ?_; (case hd => rfl); (case hg => rfl); (case hr => first | (go_simp; done) | (go_simp; rfl)); intro g2 hg2 w2 hk2 hb2; have HG2 := Aside0.mk hg2; have HK2 := Aside0.mk hk2; have HB2 := Aside0.mk hb2; clear hg2 hk2 hb2)
      | ((with_reducible refine gate_dst (N := 4) rfl ?_); refine box_event ?hg (N := 4) ?hd (cs := #[.slice none 0 0, .slice none 0 0]) (t := 28) ?hr ?_; (case hd => rfl); (case hg => rfl); (case hr => first | (go_simp; done) | (go_simp; rfl)); intro g4 hg4 w4 hk4 hb4; have HG4 := Aside0.mk hg4; have HK4 := Aside0.mk hk4; have HS4 := Aside0.mk hb4; have HB4 := Aside0.mk (below_step HB2.out hb4); clear hg4 hk4 hb4)
      | ((with_reducible refine gate_dst (N := 6) rfl ?_); refine box_event ?hg (N := 6) ?hd (cs := #[.int .i64 0]) (t := 3) ?hr ?_; (case hd => rfl); (case hg => rfl); (case hr => first | (go_simp; done) | (go_simp; rfl)); intro g6 hg6 w6 hk6 hb6; have HG6 := Aside0.mk hg6; have HK6 := Aside0.mk hk6; have HS6 := Aside0.mk hb6; have HB6 := Aside0.mk (below_step HB4.out hb6); have l26 : g2 < g6 := by { rw [hg6]; exact blk_lt (blk_below HK2.out HS4.out) }; have l46 : g4 < g6 := by { rw [hg6]; exact blk_lt HK4.out }; have y1 := (blk_cell hk6 0).trans rfl; have y2 := blk_frozen hk6 0; have K2 := (heap_setCell_other w6 ⟨g6, 0, none⟩ g2 (.int .i64 (wrap64 (a1 - 1))) (Nat.ne_of_lt l26)).trans (blk_below (blk_below HK2.out HS4.out) hb6); have K4 := Aside0.mk ((heap_setCell_other w6 ⟨g6, 0, none⟩ g4 (.int .i64 (wrap64 (a1 - 1))) (Nat.ne_of_lt l46)).trans (blk_below HK4.out hb6)); have u1 : (w6.setCell ⟨g6, 0, none⟩ (.int .i64 (wrap64 (a1 - 1)))).cell? ⟨g2, 0, none⟩ = some (.slice A0_0 l0_0.length c0_0) := (blk_cell K2 0).trans rfl; have u2 : (w6.setCell ⟨g6, 0, none⟩ (.int .i64 (wrap64 (a1 - 1)))).cell? ⟨g2, 1, none⟩ = some (.slice A0_1 l0_1.length c0_1) := (blk_cell K2 1).trans rfl; have L46 := Aside0.mk l46; have L6 := Aside0.mk (blk_lt hk6); have G6 : Aside0 (w.heap.size ≤ g6) := ⟨by { rw [hg6]; exact below_size HB4.out }⟩; clear hg6 hk6 hb6 K2 l26 l46)
      | (go_at_call 63; refine (madeW.calls k A0_0 c0_0 l0_0 A0_1 c0_1 l0_1 r1 r2 r3 (w6.setCell ⟨g6, 0, none⟩ (.int .i64 (wrap64 (a1 - 1)))) clW (wrap64 (a1 - 1)) g6 0 (fun W => Below w.heap.size w W) (below_set HB6.out G6.out) (fun W W' hW hs => below_sameW hW hs (by rw [World.size_setCell]; exact below_size HB6.out) G6.out) (fun W hW => (HST.out W hW).1) hc0_0 (fun W hW => (HST.out W hW).2) hc0_1 (set_cellW HK6.out).1 (fun s x y a b s' W h1 h2 h3 _ => clW_calls g6 s x y a b s' W h1 h2 h3) (set_cellW HK6.out).2 HH.out).mono ?_; rintro e w9 ⟨wq, ⟨st, hEL⟩, v0, v1, rfl, hR0, hR1, hBq⟩; have l4q : g4 < wq.heap.size := by { rw [hEL.size, World.size_setCell]; exact Nat.lt_trans L46.out L6.out }; have K9 := (hBq.block g4 l4q).trans ((hEL.same.block g4 (by rw [← hEL.size]; exact l4q) (Nat.ne_of_lt L46.out)).trans K4.out); obtain ⟨z1, z2, z3, z4⟩ := rest_nilW K9; have lwq : w.heap.size ≤ wq.heap.size := hEL.st.size; have G4 : w.heap.size ≤ g4 := by { rw [HG4.out]; exact below_size HB2.out }; have HB9 := Aside0.mk (below_step hEL.st hBq); obtain ⟨Ao0, co0, rfl⟩ := Kd.R_slice hR0; obtain ⟨Ao1, co1, rfl⟩ := Kd.R_slice hR1; have HR0 := Aside0.mk hR0; have HR1 := Aside0.mk hR1; have HK9 := Aside0.mk K9; clear hR0 hR1 K9 hBq hEL))
    refine bodyPost_ret (results_ct rfl _ _ g4 28 #[.slice Ao0 r1.length co0, .slice Ao1 r2.length co1] (0, 0) _ rfl (by refine blk_put (cs := #[.slice Ao0 r1.length co0, .slice none 0 0]) ?_ 1 _ rfl; refine blk_put (cs := #[.slice none 0 0, .slice none 0 0]) ?_ 0 _ rfl; exact HK9.out) Try.underlying28 rfl (by kernel_rfl)) rfl ?_
    exact ⟨_, _, rfl, Kd.R_lower (R_farbW (R_farbW HR0.out l4q) l4q) lwq, Kd.R_lower (R_farbW (R_farbW HR1.out l4q) l4q) lwq, below_set (below_set HB9.out G4) G4⟩


end Go.Proofs.Ytcnfhfjhpicpkaa.P
