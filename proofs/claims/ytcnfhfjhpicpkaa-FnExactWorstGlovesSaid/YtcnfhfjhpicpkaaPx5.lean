-- written for this claim by the session's own program (wip/xprint)
import Derived.Test.YtcnfhfjhpicpkaaPx0
import Derived.Test.YtcnfhfjhpicpkaaPx1
import Derived.Test.YtcnfhfjhpicpkaaPx4
namespace Go.Proofs.Ytcnfhfjhpicpkaa.P
open Go.RowKit Go.Proofs.YtcnfhfjhpicpkaaW.PrintWords Go.Proofs.YtcnfhfjhpicpkaaW.PrintLast Go.Proofs.YtcnfhfjhpicpkaaW.PrintMore
attribute [local go_sem] max2_int min2_int max_two min_two max_three min_three max_four min_four   -- for this text's walks alone
set_option linter.unusedVariables false
set_option linter.unusedSimpArgs false

/-! ### laws_FnExactWorstGloves: function 14 -/
mutual
def laws_FnExactWorstGloves.j0 : Nat → Int → Bool → Bool → Bool → List Int → List Int → List Int → List Int → List Int → List Int → List Int → List Int → Option (Bool)
 | 0, _, _, _, _, _, _, _, _, _, _, _, _ => none
 | k + 1, x1, x7, x10, x44, x291000, x291001, x306000, x306001, x313000, x313001, x321000, x321001 => if x44 = true then (some false) else ((laws_toGloves.f k x291000 x291001).bind fun bt322 => ((laws_eqGloves.f k x313000 x313001 bt322.1 bt322.2).bind fun t328 => (if t328 = true then ((laws_markGloves.f k x313000 x313001 1).bind fun bt329 => (if bt329.1 < 0 then (laws_FnExactWorstGloves.j1 k x1 x7 true x291000 x291001 x306000 x306001 x321000 x321001) else ((laws_eqGloves.f k x321000 x321001 x306000 x306001).bind fun t332 => (if t332 = true then (laws_FnExactWorstGloves.j1 k x1 x7 (x10 != x7) x291000 x291001 x306000 x306001 x321000 x321001) else (laws_FnExactWorstGloves.j1 k x1 x7 true x291000 x291001 x306000 x306001 x321000 x321001))))) else (some false))))
def laws_FnExactWorstGloves.j1 : Nat → Int → Bool → Bool → List Int → List Int → List Int → List Int → List Int → List Int → Option (Bool)
 | 0, _, _, _, _, _, _, _, _, _ => none
 | k + 1, x1, x7, x65, x291000, x291001, x306000, x306001, x321000, x321001 => if x65 = true then (some false) else ((laws_markGloves.f k x321000 x321001 1).bind fun bt333 => ((laws_heldGloves.f k bt333.2.1 bt333.2.2 1).bind fun t336 => (if t336 < 0 then (some false) else (if t336 = bt333.1 then ((laws_toGloves.f k x291000 x291001).bind fun bt337 => ((impl_WorstGloves.f k bt337.1 bt337.2 x1).bind fun bt343 => ((laws_eqGloves.f k bt343.1 bt343.2.1 x306000 x306001).bind fun t351 => (if t351 = true then (laws_FnExactWorstGloves.j2 k bt333.1 (bt343.2.2 != x7) bt333.2.1 bt333.2.2) else (laws_FnExactWorstGloves.j2 k bt333.1 true bt333.2.1 bt333.2.2))))) else (some false)))))
def laws_FnExactWorstGloves.j2 : Nat → Int → Bool → List Int → List Int → Option (Bool)
 | 0, _, _, _, _ => none
 | k + 1, x12, x92, x321000, x321001 => if x92 = true then (some false) else ((laws_heldGloves.f k x321000 x321001 1).bind fun t352 => (if t352 < 0 then (some false) else (if t352 = x12 then (some true) else (some false))))
end
def laws_FnExactWorstGloves.f (k : Nat) (l0_0 : List Int) (l0_1 : List Int) (a1 : Int) : Option (Bool) := (laws_szGloves.f l0_0 l0_1 1048576).bind fun t291 => (if t291 < 0 then (some true) else ((laws_toGloves.f k l0_0 l0_1).bind fun bt292 => ((spec_WorstGloves.f k bt292.1 bt292.2 a1).bind fun bt298 => ((laws_toGloves.f k l0_0 l0_1).bind fun bt306 => ((impl_WorstGloves.f k bt306.1 bt306.2 a1).bind fun bt313 => ((laws_eqGloves.f k bt313.1 bt313.2.1 bt298.1 bt298.2.1).bind fun t321 => (if t321 = true then (laws_FnExactWorstGloves.j0 k a1 bt298.2.2 bt313.2.2 (bt313.2.2 != bt298.2.2) l0_0 l0_1 bt298.1 bt298.2.1 bt306.1 bt306.2 bt313.1 bt313.2.1) else (laws_FnExactWorstGloves.j0 k a1 bt298.2.2 bt313.2.2 true l0_0 l0_1 bt298.1 bt298.2.1 bt306.1 bt306.2 bt313.1 bt313.2.1))))))))
theorem laws_FnExactWorstGloves.mono_l : ∀ k, (∀ y0 y1 y2 y3 y4 y5 y6 y7 y8 y9 y10 y11, LeO (laws_FnExactWorstGloves.j0 k y0 y1 y2 y3 y4 y5 y6 y7 y8 y9 y10 y11) (laws_FnExactWorstGloves.j0 (k + 1) y0 y1 y2 y3 y4 y5 y6 y7 y8 y9 y10 y11)) ∧ (∀ y0 y1 y2 y3 y4 y5 y6 y7 y8, LeO (laws_FnExactWorstGloves.j1 k y0 y1 y2 y3 y4 y5 y6 y7 y8) (laws_FnExactWorstGloves.j1 (k + 1) y0 y1 y2 y3 y4 y5 y6 y7 y8)) ∧ (∀ y0 y1 y2 y3, LeO (laws_FnExactWorstGloves.j2 k y0 y1 y2 y3) (laws_FnExactWorstGloves.j2 (k + 1) y0 y1 y2 y3))
 | 0 => ⟨fun _ _ _ _ _ _ _ _ _ _ _ _ r h => by simp [laws_FnExactWorstGloves.j0] at h, fun _ _ _ _ _ _ _ _ _ r h => by simp [laws_FnExactWorstGloves.j1] at h, fun _ _ _ _ r h => by simp [laws_FnExactWorstGloves.j2] at h⟩
 | k + 1 => by
  obtain ⟨ih0, ih1, ih2⟩ := laws_FnExactWorstGloves.mono_l k
  refine ⟨?_, ?_, ?_⟩
  ·intro y0 y1 y2 y3 y4 y5 y6 y7 y8 y9 y10 y11
   unfold laws_FnExactWorstGloves.j0
   repeat' first
   | (with_reducible exact ih0 _ _ _ _ _ _ _ _ _ _ _ _)
   | (with_reducible exact ih1 _ _ _ _ _ _ _ _ _)
   | (with_reducible exact ih2 _ _ _ _)
   | (with_reducible exact impl_WorstGloves.mono _ _ _ _)
   | (with_reducible exact laws_eqGloves.mono _ _ _ _ _)
   | (with_reducible exact laws_heldGloves.mono _ _ _ _)
   | (with_reducible exact laws_markGloves.mono _ _ _ _)
   | (with_reducible exact laws_toGloves.mono _ _ _)
   | (with_reducible exact spec_WorstGloves.mono _ _ _ _)
   | (with_reducible exact LeO.refl _)
   | (with_reducible exact LeO.none _)
   | (with_reducible refine LeO.ite ?_ ?_)
   | (with_reducible refine LeO.bind ?_ (fun _ => ?_))
   | exact ih0 _ _ _ _ _ _ _ _ _ _ _ _
   | exact ih1 _ _ _ _ _ _ _ _ _
   | exact ih2 _ _ _ _
   | exact impl_WorstGloves.mono _ _ _ _
   | exact laws_eqGloves.mono _ _ _ _ _
   | exact laws_heldGloves.mono _ _ _ _
   | exact laws_markGloves.mono _ _ _ _
   | exact laws_toGloves.mono _ _ _
   | exact spec_WorstGloves.mono _ _ _ _
   | exact LeO.none _
   | refine LeO.ite ?_ ?_
   | refine LeO.bind ?_ (fun _ => ?_)
  ·intro y0 y1 y2 y3 y4 y5 y6 y7 y8
   unfold laws_FnExactWorstGloves.j1
   repeat' first
   | (with_reducible exact ih0 _ _ _ _ _ _ _ _ _ _ _ _)
   | (with_reducible exact ih1 _ _ _ _ _ _ _ _ _)
   | (with_reducible exact ih2 _ _ _ _)
   | (with_reducible exact impl_WorstGloves.mono _ _ _ _)
   | (with_reducible exact laws_eqGloves.mono _ _ _ _ _)
   | (with_reducible exact laws_heldGloves.mono _ _ _ _)
   | (with_reducible exact laws_markGloves.mono _ _ _ _)
   | (with_reducible exact laws_toGloves.mono _ _ _)
   | (with_reducible exact spec_WorstGloves.mono _ _ _ _)
   | (with_reducible exact LeO.refl _)
   | (with_reducible exact LeO.none _)
   | (with_reducible refine LeO.ite ?_ ?_)
   | (with_reducible refine LeO.bind ?_ (fun _ => ?_))
   | exact ih0 _ _ _ _ _ _ _ _ _ _ _ _
   | exact ih1 _ _ _ _ _ _ _ _ _
   | exact ih2 _ _ _ _
   | exact impl_WorstGloves.mono _ _ _ _
   | exact laws_eqGloves.mono _ _ _ _ _
   | exact laws_heldGloves.mono _ _ _ _
   | exact laws_markGloves.mono _ _ _ _
   | exact laws_toGloves.mono _ _ _
   | exact spec_WorstGloves.mono _ _ _ _
   | exact LeO.none _
   | refine LeO.ite ?_ ?_
   | refine LeO.bind ?_ (fun _ => ?_)
  ·intro y0 y1 y2 y3
   unfold laws_FnExactWorstGloves.j2
   repeat' first
   | (with_reducible exact ih0 _ _ _ _ _ _ _ _ _ _ _ _)
   | (with_reducible exact ih1 _ _ _ _ _ _ _ _ _)
   | (with_reducible exact ih2 _ _ _ _)
   | (with_reducible exact impl_WorstGloves.mono _ _ _ _)
   | (with_reducible exact laws_eqGloves.mono _ _ _ _ _)
   | (with_reducible exact laws_heldGloves.mono _ _ _ _)
   | (with_reducible exact laws_markGloves.mono _ _ _ _)
   | (with_reducible exact laws_toGloves.mono _ _ _)
   | (with_reducible exact spec_WorstGloves.mono _ _ _ _)
   | (with_reducible exact LeO.refl _)
   | (with_reducible exact LeO.none _)
   | (with_reducible refine LeO.ite ?_ ?_)
   | (with_reducible refine LeO.bind ?_ (fun _ => ?_))
   | exact ih0 _ _ _ _ _ _ _ _ _ _ _ _
   | exact ih1 _ _ _ _ _ _ _ _ _
   | exact ih2 _ _ _ _
   | exact impl_WorstGloves.mono _ _ _ _
   | exact laws_eqGloves.mono _ _ _ _ _
   | exact laws_heldGloves.mono _ _ _ _
   | exact laws_markGloves.mono _ _ _ _
   | exact laws_toGloves.mono _ _ _
   | exact spec_WorstGloves.mono _ _ _ _
   | exact LeO.none _
   | refine LeO.ite ?_ ?_
   | refine LeO.bind ?_ (fun _ => ?_)
theorem laws_FnExactWorstGloves.mono : ∀ a0 a1 a2 k, LeO (laws_FnExactWorstGloves.f k a0 a1 a2) (laws_FnExactWorstGloves.f (k + 1) a0 a1 a2) := by
 intro a0 a1 a2 k
 obtain ⟨ih0, ih1, ih2⟩ := laws_FnExactWorstGloves.mono_l k
 unfold laws_FnExactWorstGloves.f
 repeat' first
   | (with_reducible exact ih0 _ _ _ _ _ _ _ _ _ _ _ _)
   | (with_reducible exact ih1 _ _ _ _ _ _ _ _ _)
   | (with_reducible exact ih2 _ _ _ _)
   | (with_reducible exact impl_WorstGloves.mono _ _ _ _)
   | (with_reducible exact laws_eqGloves.mono _ _ _ _ _)
   | (with_reducible exact laws_heldGloves.mono _ _ _ _)
   | (with_reducible exact laws_markGloves.mono _ _ _ _)
   | (with_reducible exact laws_toGloves.mono _ _ _)
   | (with_reducible exact spec_WorstGloves.mono _ _ _ _)
   | (with_reducible exact LeO.refl _)
   | (with_reducible exact LeO.none _)
   | (with_reducible refine LeO.ite ?_ ?_)
   | (with_reducible refine LeO.bind ?_ (fun _ => ?_))
   | exact ih0 _ _ _ _ _ _ _ _ _ _ _ _
   | exact ih1 _ _ _ _ _ _ _ _ _
   | exact ih2 _ _ _ _
   | exact impl_WorstGloves.mono _ _ _ _
   | exact laws_eqGloves.mono _ _ _ _ _
   | exact laws_heldGloves.mono _ _ _ _
   | exact laws_markGloves.mono _ _ _ _
   | exact laws_toGloves.mono _ _ _
   | exact spec_WorstGloves.mono _ _ _ _
   | exact LeO.none _
   | refine LeO.ite ?_ ?_
   | refine LeO.bind ?_ (fun _ => ?_)
set_option maxHeartbeats 8000000 in
set_option maxRecDepth 100000 in
theorem laws_FnExactWorstGloves.calls (k : Nat) (A0_0 : Option Addr) (c0_0 : Nat) (l0_0 : List Int) (A0_1 : Option Addr) (c0_1 : Nat) (l0_1 : List Int) (a1 : Int) (r : Bool) (w : World) (hr0_0 : Kd.C (Kd.int .i64) w A0_0 l0_0.length l0_0) (hc0_0 : l0_0.length ≤ c0_0) (hr0_1 : Kd.C (Kd.int .i64) w A0_1 l0_1.length l0_1) (hc0_1 : l0_1.length ≤ c0_1) (h : laws_FnExactWorstGloves.f k l0_0 l0_1 a1 = some r) :
  Calls Try.prog 14 #[.agg #[.slice A0_0 l0_0.length c0_0, .slice A0_1 l0_1.length c0_1], .int .i64 a1] w fun e w' => e = .returned (.bool r) ∧ Below w.heap.size w w' := by
 have hu24 := Try.underlying24
 have hu28 := Try.underlying28
 have HR0_0 := Aside0.mk hr0_0
 have HC0_0 := Aside0.mk hc0_0
 clear hr0_0 hc0_0
 have HR0_1 := Aside0.mk hr0_1
 have HC0_1 := Aside0.mk hc0_1
 clear hr0_1 hc0_1
 have HB := Aside0.mk (Below.refl w.heap.size w)
 have H : ((laws_szGloves.f l0_0 l0_1 1048576).bind fun t291 => (if t291 < 0 then (some true) else ((laws_toGloves.f k l0_0 l0_1).bind fun bt292 => ((spec_WorstGloves.f k bt292.1 bt292.2 a1).bind fun bt298 => ((laws_toGloves.f k l0_0 l0_1).bind fun bt306 => ((impl_WorstGloves.f k bt306.1 bt306.2 a1).bind fun bt313 => ((laws_eqGloves.f k bt313.1 bt313.2.1 bt298.1 bt298.2.1).bind fun t321 => (if t321 = true then (laws_FnExactWorstGloves.j0 k a1 bt298.2.2 bt313.2.2 (bt313.2.2 != bt298.2.2) l0_0 l0_1 bt298.1 bt298.2.1 bt306.1 bt306.2 bt313.1 bt313.2.1) else (laws_FnExactWorstGloves.j0 k a1 bt298.2.2 bt313.2.2 true l0_0 l0_1 bt298.1 bt298.2.1 bt306.1 bt306.2 bt313.1 bt313.2.1))))))))) = some r := h
 clear h
 replace H := Option.bind_eq_some_iff.mp H
 obtain ⟨t291, A30, H⟩ := H
 replace H : (if t291 < 0 then (some true) else ((laws_toGloves.f k l0_0 l0_1).bind fun bt292 => ((spec_WorstGloves.f k bt292.1 bt292.2 a1).bind fun bt298 => ((laws_toGloves.f k l0_0 l0_1).bind fun bt306 => ((impl_WorstGloves.f k bt306.1 bt306.2 a1).bind fun bt313 => ((laws_eqGloves.f k bt313.1 bt313.2.1 bt298.1 bt298.2.1).bind fun t321 => (if t321 = true then (laws_FnExactWorstGloves.j0 k a1 bt298.2.2 bt313.2.2 (bt313.2.2 != bt298.2.2) l0_0 l0_1 bt298.1 bt298.2.1 bt306.1 bt306.2 bt313.1 bt313.2.1) else (laws_FnExactWorstGloves.j0 k a1 bt298.2.2 bt313.2.2 true l0_0 l0_1 bt298.1 bt298.2.1 bt306.1 bt306.2 bt313.1 bt313.2.1)))))))) = some r := H
 have A3 := Aside0.mk A30
 clear A30
 by_cases c4 : t291 < 0
 ·rw [if_pos c4] at H
  have c4b0 : decide (t291 < 0) = true := decide_eq_true c4
  clear c4
  obtain rfl := Option.some.inj H
  go_enter Try.func14, Try.ntmps14
  go_wp2_with (first | ((with_reducible refine gate_dst (N := 2) rfl ?_); refine box_event ?hg (N := 2) ?hd (cs := #[.slice A0_0 l0_0.length c0_0, .slice A0_1 l0_1.length c0_1]) (t := 24) ?hr ?_; (case hd => rfl); (case hg => rfl); (case hr => first | (go_simp; done) | (go_simp; rfl)); intro gb290 hg w5 hbox hb; have n0_ := Aside0.mk (below_step (by repeat (first | (with_reducible first | exact HB.1 | apply below_alloc | apply pw_below_drewN | apply below_drew1) | exact HB.1)) hb); have n1_ := Aside0.mk (hbox); have n2_ := Aside0.mk ((by rw [hg]; exact (below_size (by repeat (first | (with_reducible first | exact HB.1 | apply below_alloc | apply pw_below_drewN | apply below_drew1) | exact HB.1))) : w.heap.size ≤ gb290)); have n3_ := Aside0.mk ((by rw [hg]; exact (below_size (by repeat (first | (with_reducible first | exact HB.1 | apply below_alloc | apply pw_below_drewN | apply below_drew1) | exact HB.1))) : w.heap.size ≤ gb290)); clear HB; have HB := n0_; have BK290 := n1_; have GW290 := n2_; have GE290 := n3_; clear n0_ n1_ n2_ n3_; clear hb hbox hg; have hcz6_0 : w5.cell? ⟨gb290, 0, none⟩ = some (.slice A0_0 l0_0.length c0_0) := (blk_cell BK290.1 0).trans rfl; have hcz6_1 : w5.cell? ⟨gb290, 1, none⟩ = some (.slice A0_1 l0_1.length c0_1) := (blk_cell BK290.1 1).trans rfl; have hfz6_0 := blk_frozen BK290.1 0; have hfz6_1 := blk_frozen BK290.1 1) | ((with_reducible refine gate_callee (f := 15) rfl ?_); refine goesL_ (some 18) rfl rfl Try.func15 (by kernel_rfl) rfl #[.agg #[.slice A0_0 l0_0.length c0_0, .slice A0_1 l0_1.length c0_1], .int .i64 1048576] rfl (by (try simp only [List.map_toArray, List.map_cons, List.map_nil]); first | done | rfl | (simp only [List.length_drop, List.length_take]; rfl)) ?_; (with_reducible refine (laws_szGloves.calls _ _ l0_0 _ _ l0_1 1048576 t291 _ ?side1 ?side2 ?side3 ?side4 A3.1).mono ?_); (case side1 => repeat (first | exact (Kd.C_below HR0_0.1 HB.1) | (with_reducible refine Kd.C_alloc ?_ _) | (with_reducible refine Kd.C_drewN ?_ _) | (with_reducible refine Kd.C_drew ?_))); (case side2 => exact HC0_0.1); (case side3 => repeat (first | exact (Kd.C_below HR0_1.1 HB.1) | (with_reducible refine Kd.C_alloc ?_ _) | (with_reducible refine Kd.C_drewN ?_ _) | (with_reducible refine Kd.C_drew ?_))); (case side4 => exact HC0_1.1); rintro e w7 ⟨rfl, hb⟩; refine ⟨_, rfl, ?_⟩; have n0_ := Aside0.mk (blk_below (g := gb290) (o := .cells #[.slice A0_0 l0_0.length c0_0, .slice A0_1 l0_1.length c0_1] 24 (0, 0)) (by (with_reducible repeat (first | refine blk_drewN ?_ _ | refine blk_drew ?_ | refine blk_alloc ?_ _)); exact BK290.1) hb); have n1_ := Aside0.mk (below_step (by repeat (first | (with_reducible first | exact HB.1 | apply below_alloc | apply pw_below_drewN | apply below_drew1 | refine below_set ?_ GE290.1) | exact HB.1)) hb); clear BK290; clear HB; have BK290 := n0_; have HB := n1_; clear n0_ n1_; (try clear hb); (try clear hb2); (try clear hk); (try clear hi)))
  go_ret
  exact ⟨by first | rfl | (simp [errW_none, errW_some] <;> rfl) | (simp [Go.IntWalk.i64_left]; done) | (simp [*, errW_none, errW_some] <;> rfl), by repeat (first | (with_reducible first | exact HB.1 | apply below_alloc | apply pw_below_drewN | apply below_drew1 | refine below_set ?_ GE290.1) | exact HB.1)⟩
 ·rw [if_neg c4] at H
  have c4b0 : decide (t291 < 0) = false := decide_eq_false c4
  clear c4
  replace H := Option.bind_eq_some_iff.mp H
  obtain ⟨⟨t292, t295⟩, A80, H⟩ := H
  replace H : ((spec_WorstGloves.f k t292 t295 a1).bind fun bt298 => ((laws_toGloves.f k l0_0 l0_1).bind fun bt306 => ((impl_WorstGloves.f k bt306.1 bt306.2 a1).bind fun bt313 => ((laws_eqGloves.f k bt313.1 bt313.2.1 bt298.1 bt298.2.1).bind fun t321 => (if t321 = true then (laws_FnExactWorstGloves.j0 k a1 bt298.2.2 bt313.2.2 (bt313.2.2 != bt298.2.2) l0_0 l0_1 bt298.1 bt298.2.1 bt306.1 bt306.2 bt313.1 bt313.2.1) else (laws_FnExactWorstGloves.j0 k a1 bt298.2.2 bt313.2.2 true l0_0 l0_1 bt298.1 bt298.2.1 bt306.1 bt306.2 bt313.1 bt313.2.1)))))) = some r := H
  have A8 := Aside0.mk A80
  clear A80
  replace H := Option.bind_eq_some_iff.mp H
  obtain ⟨⟨t298, t301, t304⟩, A90, H⟩ := H
  replace H : ((laws_toGloves.f k l0_0 l0_1).bind fun bt306 => ((impl_WorstGloves.f k bt306.1 bt306.2 a1).bind fun bt313 => ((laws_eqGloves.f k bt313.1 bt313.2.1 t298 t301).bind fun t321 => (if t321 = true then (laws_FnExactWorstGloves.j0 k a1 t304 bt313.2.2 (bt313.2.2 != t304) l0_0 l0_1 t298 t301 bt306.1 bt306.2 bt313.1 bt313.2.1) else (laws_FnExactWorstGloves.j0 k a1 t304 bt313.2.2 true l0_0 l0_1 t298 t301 bt306.1 bt306.2 bt313.1 bt313.2.1))))) = some r := H
  have A9 := Aside0.mk A90
  clear A90
  replace H := Option.bind_eq_some_iff.mp H
  obtain ⟨⟨t306, t309⟩, A100, H⟩ := H
  replace H : ((impl_WorstGloves.f k t306 t309 a1).bind fun bt313 => ((laws_eqGloves.f k bt313.1 bt313.2.1 t298 t301).bind fun t321 => (if t321 = true then (laws_FnExactWorstGloves.j0 k a1 t304 bt313.2.2 (bt313.2.2 != t304) l0_0 l0_1 t298 t301 t306 t309 bt313.1 bt313.2.1) else (laws_FnExactWorstGloves.j0 k a1 t304 bt313.2.2 true l0_0 l0_1 t298 t301 t306 t309 bt313.1 bt313.2.1)))) = some r := H
  have A10 := Aside0.mk A100
  clear A100
  replace H := Option.bind_eq_some_iff.mp H
  obtain ⟨⟨t313, t316, t319⟩, A110, H⟩ := H
  replace H : ((laws_eqGloves.f k t313 t316 t298 t301).bind fun t321 => (if t321 = true then (laws_FnExactWorstGloves.j0 k a1 t304 t319 (t319 != t304) l0_0 l0_1 t298 t301 t306 t309 t313 t316) else (laws_FnExactWorstGloves.j0 k a1 t304 t319 true l0_0 l0_1 t298 t301 t306 t309 t313 t316))) = some r := H
  have A11 := Aside0.mk A110
  clear A110
  have HC12 := Aside0.mk H
  clear H
  go_enter Try.func14, Try.ntmps14
  go_upto_region 8 with (first | ((with_reducible refine gate_dst (N := 2) rfl ?_); refine box_event ?hg (N := 2) ?hd (cs := #[.slice A0_0 l0_0.length c0_0, .slice A0_1 l0_1.length c0_1]) (t := 24) ?hr ?_; (case hd => rfl); (case hg => rfl); (case hr => first | (go_simp; done) | (go_simp; rfl)); intro gb290 hg w13 hbox hb; have n0_ := Aside0.mk (below_step (by repeat (first | (with_reducible first | exact HB.1 | apply below_alloc | apply pw_below_drewN | apply below_drew1) | exact HB.1)) hb); have n1_ := Aside0.mk (hbox); have n2_ := Aside0.mk ((by rw [hg]; exact (below_size (by repeat (first | (with_reducible first | exact HB.1 | apply below_alloc | apply pw_below_drewN | apply below_drew1) | exact HB.1))) : w.heap.size ≤ gb290)); have n3_ := Aside0.mk ((by rw [hg]; exact (below_size (by repeat (first | (with_reducible first | exact HB.1 | apply below_alloc | apply pw_below_drewN | apply below_drew1) | exact HB.1))) : w.heap.size ≤ gb290)); clear HB; have HB := n0_; have BK290 := n1_; have GW290 := n2_; have GE290 := n3_; clear n0_ n1_ n2_ n3_; clear hb hbox hg; have hcz14_0 : w13.cell? ⟨gb290, 0, none⟩ = some (.slice A0_0 l0_0.length c0_0) := (blk_cell BK290.1 0).trans rfl; have hcz14_1 : w13.cell? ⟨gb290, 1, none⟩ = some (.slice A0_1 l0_1.length c0_1) := (blk_cell BK290.1 1).trans rfl; have hfz14_0 := blk_frozen BK290.1 0; have hfz14_1 := blk_frozen BK290.1 1) | ((with_reducible refine gate_callee (f := 15) rfl ?_); refine goesL_ (some 18) rfl rfl Try.func15 (by kernel_rfl) rfl #[.agg #[.slice A0_0 l0_0.length c0_0, .slice A0_1 l0_1.length c0_1], .int .i64 1048576] rfl (by (try simp only [List.map_toArray, List.map_cons, List.map_nil]); first | done | rfl | (simp only [List.length_drop, List.length_take]; rfl)) ?_; (with_reducible refine (laws_szGloves.calls _ _ l0_0 _ _ l0_1 1048576 t291 _ ?side1 ?side2 ?side3 ?side4 A3.1).mono ?_); (case side1 => repeat (first | exact (Kd.C_below HR0_0.1 HB.1) | (with_reducible refine Kd.C_alloc ?_ _) | (with_reducible refine Kd.C_drewN ?_ _) | (with_reducible refine Kd.C_drew ?_))); (case side2 => exact HC0_0.1); (case side3 => repeat (first | exact (Kd.C_below HR0_1.1 HB.1) | (with_reducible refine Kd.C_alloc ?_ _) | (with_reducible refine Kd.C_drewN ?_ _) | (with_reducible refine Kd.C_drew ?_))); (case side4 => exact HC0_1.1); rintro e w15 ⟨rfl, hb⟩; refine ⟨_, rfl, ?_⟩; have n0_ := Aside0.mk (blk_below (g := gb290) (o := .cells #[.slice A0_0 l0_0.length c0_0, .slice A0_1 l0_1.length c0_1] 24 (0, 0)) (by (with_reducible repeat (first | refine blk_drewN ?_ _ | refine blk_drew ?_ | refine blk_alloc ?_ _)); exact BK290.1) hb); have n1_ := Aside0.mk (below_step (by repeat (first | (with_reducible first | exact HB.1 | apply below_alloc | apply pw_below_drewN | apply below_drew1 | refine below_set ?_ GE290.1) | exact HB.1)) hb); clear BK290; clear HB; have BK290 := n0_; have HB := n1_; clear n0_ n1_; (try clear hb); (try clear hb2); (try clear hk); (try clear hi); have hcz16_0 : w15.cell? ⟨gb290, 0, none⟩ = some (.slice A0_0 l0_0.length c0_0) := (blk_cell BK290.1 0).trans rfl; have hcz16_1 : w15.cell? ⟨gb290, 1, none⟩ = some (.slice A0_1 l0_1.length c0_1) := (blk_cell BK290.1 1).trans rfl; have hfz16_0 := blk_frozen BK290.1 0; have hfz16_1 := blk_frozen BK290.1 1) | ((with_reducible refine gate_callee (f := 17) rfl ?_); refine goesL_ (some 23) rfl rfl Try.func17 (by kernel_rfl) rfl #[.agg #[.slice A0_0 l0_0.length c0_0, .slice A0_1 l0_1.length c0_1]] rfl (by (try simp only [List.map_toArray, List.map_cons, List.map_nil]); first | done | rfl | (simp only [List.length_drop, List.length_take]; rfl)) ?_; (with_reducible refine (laws_toGloves.calls k _ _ l0_0 _ _ l0_1 t292 t295 _ ?side1 ?side2 ?side3 ?side4 A8.1).mono ?_); (case side1 => repeat (first | exact (Kd.C_below HR0_0.1 HB.1) | (with_reducible refine Kd.C_alloc ?_ _) | (with_reducible refine Kd.C_drewN ?_ _) | (with_reducible refine Kd.C_drew ?_))); (case side2 => exact HC0_0.1); (case side3 => repeat (first | exact (Kd.C_below HR0_1.1 HB.1) | (with_reducible refine Kd.C_alloc ?_ _) | (with_reducible refine Kd.C_drewN ?_ _) | (with_reducible refine Kd.C_drew ?_))); (case side4 => exact HC0_1.1); rintro e w17 ⟨v293, v296, rfl, ho0, ho1, hb⟩; refine ⟨_, rfl, ?_⟩; have n0_ := Aside0.mk (Kd.R_lower ho0 (below_size (by repeat (first | (with_reducible first | exact HB.1 | apply below_alloc | apply pw_below_drewN | apply below_drew1 | refine below_set ?_ GE290.1) | exact HB.1)))); have n1_ := Aside0.mk (Kd.R_lower ho1 (below_size (by repeat (first | (with_reducible first | exact HB.1 | apply below_alloc | apply pw_below_drewN | apply below_drew1 | refine below_set ?_ GE290.1) | exact HB.1)))); have n2_ := Aside0.mk (blk_below (g := gb290) (o := .cells #[.slice A0_0 l0_0.length c0_0, .slice A0_1 l0_1.length c0_1] 24 (0, 0)) (by (with_reducible repeat (first | refine blk_drewN ?_ _ | refine blk_drew ?_ | refine blk_alloc ?_ _)); exact BK290.1) hb); have n3_ := Aside0.mk (below_step (by repeat (first | (with_reducible first | exact HB.1 | apply below_alloc | apply pw_below_drewN | apply below_drew1 | refine below_set ?_ GE290.1) | exact HB.1)) hb); clear BK290; clear HB; have HO294 := n0_; have HO297 := n1_; have BK290 := n2_; have HB := n3_; clear n0_ n1_ n2_ n3_; (try clear hb); (try clear hb2); (try clear hk); (try clear hi); (try clear ho0); (try clear ho1); obtain ⟨Ao18, co18, eo18⟩ := Kd.R_slice HO294.1; subst eo18; obtain ⟨Ao19, co19, eo19⟩ := Kd.R_slice HO297.1; subst eo19) | ((with_reducible refine gate_callee (f := 42) rfl ?_); refine goesL_ (some 25) rfl rfl Try.func42 (by kernel_rfl) rfl #[.agg #[.slice Ao18 t292.length co18, .slice Ao19 t295.length co19], .int .i64 a1] rfl (by (try simp only [List.map_toArray, List.map_cons, List.map_nil]); first | done | rfl | (simp only [List.length_drop, List.length_take]; rfl)) ?_; (with_reducible refine (spec_WorstGloves.calls k _ _ t292 _ _ t295 a1 t298 t301 t304 _ ?side1 ?side2 ?side3 ?side4 A9.1).mono ?_); (case side1 => repeat (first | exact (Kd.R_reads' HO294.1).2.2 | (with_reducible refine Kd.C_alloc ?_ _) | (with_reducible refine Kd.C_drewN ?_ _) | (with_reducible refine Kd.C_drew ?_))); (case side2 => exact (Kd.R_reads' HO294.1).2.1); (case side3 => repeat (first | exact (Kd.R_reads' HO297.1).2.2 | (with_reducible refine Kd.C_alloc ?_ _) | (with_reducible refine Kd.C_drewN ?_ _) | (with_reducible refine Kd.C_drew ?_))); (case side4 => exact (Kd.R_reads' HO297.1).2.1); rintro e w20 ⟨v299, v302, rfl, ho0, ho1, hb⟩; refine ⟨_, rfl, ?_⟩; have n0_ := Aside0.mk (Kd.R_mono (Kd.R_told (Kd.R_told (Kd.R_old (by (with_reducible repeat (first | apply Kd.R_alloc | apply Kd.R_drewN | apply Kd.R_drew)); exact HO294.1) hb) (Kd.R_base ho0)) (Kd.R_base ho1)) (fun _ h_ => h_.1)); have n1_ := Aside0.mk (Kd.R_mono (Kd.R_told (Kd.R_told (Kd.R_old (by (with_reducible repeat (first | apply Kd.R_alloc | apply Kd.R_drewN | apply Kd.R_drew)); exact HO297.1) hb) (Kd.R_base ho0)) (Kd.R_base ho1)) (fun _ h_ => h_.1)); have n2_ := Aside0.mk (Kd.R_lower (Kd.R_new' (Kd.R_new' ho0 (Kd.R_lt (by (with_reducible repeat (first | apply Kd.R_alloc | apply Kd.R_drewN | apply Kd.R_drew)); exact HO294.1))) (Kd.R_lt (by (with_reducible repeat (first | apply Kd.R_alloc | apply Kd.R_drewN | apply Kd.R_drew)); exact HO297.1))) (below_size (by repeat (first | (with_reducible first | exact HB.1 | apply below_alloc | apply pw_below_drewN | apply below_drew1 | refine below_set ?_ GE290.1) | exact HB.1)))); have n3_ := Aside0.mk (Kd.R_lower (Kd.R_new' (Kd.R_new' ho1 (Kd.R_lt (by (with_reducible repeat (first | apply Kd.R_alloc | apply Kd.R_drewN | apply Kd.R_drew)); exact HO294.1))) (Kd.R_lt (by (with_reducible repeat (first | apply Kd.R_alloc | apply Kd.R_drewN | apply Kd.R_drew)); exact HO297.1))) (below_size (by repeat (first | (with_reducible first | exact HB.1 | apply below_alloc | apply pw_below_drewN | apply below_drew1 | refine below_set ?_ GE290.1) | exact HB.1)))); have n4_ := Aside0.mk (blk_below (g := gb290) (o := .cells #[.slice A0_0 l0_0.length c0_0, .slice A0_1 l0_1.length c0_1] 24 (0, 0)) (by (with_reducible repeat (first | refine blk_drewN ?_ _ | refine blk_drew ?_ | refine blk_alloc ?_ _)); exact BK290.1) hb); have n5_ := Aside0.mk (below_step (by repeat (first | (with_reducible first | exact HB.1 | apply below_alloc | apply pw_below_drewN | apply below_drew1 | refine below_set ?_ GE290.1) | exact HB.1)) hb); clear HO294; clear HO297; clear BK290; clear HB; have HO294 := n0_; have HO297 := n1_; have HO300 := n2_; have HO303 := n3_; have BK290 := n4_; have HB := n5_; clear n0_ n1_ n2_ n3_ n4_ n5_; (try clear hb); (try clear hb2); (try clear hk); (try clear hi); (try clear ho0); (try clear ho1)) | ((with_reducible refine gate_dst (N := 6) rfl ?_); refine box_event ?hg (N := 6) ?hd (cs := #[.slice none 0 0, .slice none 0 0]) (t := 28) ?hr ?_; (case hd => rfl); (case hg => rfl); (case hr => first | (go_simp; done) | (go_simp; rfl)); intro gb305 hg w21 hbox hb; have n0_ := Aside0.mk (Kd.R_below (by (with_reducible repeat (first | apply Kd.R_alloc | apply Kd.R_drewN | apply Kd.R_drew)); exact HO294.1) hb); have n1_ := Aside0.mk (Kd.R_below (by (with_reducible repeat (first | apply Kd.R_alloc | apply Kd.R_drewN | apply Kd.R_drew)); exact HO297.1) hb); have n2_ := Aside0.mk (Kd.R_below (by (with_reducible repeat (first | apply Kd.R_alloc | apply Kd.R_drewN | apply Kd.R_drew)); exact HO300.1) hb); have n3_ := Aside0.mk (Kd.R_below (by (with_reducible repeat (first | apply Kd.R_alloc | apply Kd.R_drewN | apply Kd.R_drew)); exact HO303.1) hb); have n4_ := Aside0.mk (blk_below (g := gb290) (o := .cells #[.slice A0_0 l0_0.length c0_0, .slice A0_1 l0_1.length c0_1] 24 (0, 0)) (by (with_reducible repeat (first | refine blk_drewN ?_ _ | refine blk_drew ?_ | refine blk_alloc ?_ _)); exact BK290.1) hb); have n5_ := Aside0.mk (below_step (by repeat (first | (with_reducible first | exact HB.1 | apply below_alloc | apply pw_below_drewN | apply below_drew1 | refine below_set ?_ GE290.1) | exact HB.1)) hb); have n6_ := Aside0.mk (hbox); have n7_ := Aside0.mk ((by rw [hg]; exact (below_size (by repeat (first | (with_reducible first | exact HB.1 | apply below_alloc | apply pw_below_drewN | apply below_drew1 | refine below_set ?_ GE290.1) | exact HB.1))) : w.heap.size ≤ gb305)); have n8_ := Aside0.mk ((by rw [hg]; exact (below_size (by repeat (first | (with_reducible first | exact HB.1 | apply below_alloc | apply pw_below_drewN | apply below_drew1 | refine below_set ?_ GE290.1) | exact HB.1))) : w.heap.size ≤ gb305)); have n9_ := Aside0.mk ((by rw [hg]; exact Nat.ne_of_lt (blk_lt (g := gb290) (o := .cells #[.slice A0_0 l0_0.length c0_0, .slice A0_1 l0_1.length c0_1] 24 (0, 0)) (by (with_reducible repeat (first | refine blk_drewN ?_ _ | refine blk_drew ?_ | refine blk_alloc ?_ _)); exact BK290.1)) : gb290 ≠ gb305)); have n10_ := Aside0.mk ((by rw [hg]; exact Nat.ne_of_gt (blk_lt (g := gb290) (o := .cells #[.slice A0_0 l0_0.length c0_0, .slice A0_1 l0_1.length c0_1] 24 (0, 0)) (by (with_reducible repeat (first | refine blk_drewN ?_ _ | refine blk_drew ?_ | refine blk_alloc ?_ _)); exact BK290.1)) : gb305 ≠ gb290)); clear HO294; clear HO297; clear HO300; clear HO303; clear BK290; clear HB; have HO294 := n0_; have HO297 := n1_; have HO300 := n2_; have HO303 := n3_; have BK290 := n4_; have HB := n5_; have BK305 := n6_; have GW305 := n7_; have GE305 := n8_; have NB290_305 := n9_; have NB305_290 := n10_; clear n0_ n1_ n2_ n3_ n4_ n5_ n6_ n7_ n8_ n9_ n10_; clear hb hbox hg; obtain ⟨Ao22, co22, eo22⟩ := Kd.R_slice HO300.1; subst eo22; have hnb23 := NB305_290.1; have hnc23 := NB290_305.1; have hcz24_0 : w21.cell? ⟨gb305, 0, none⟩ = some (.slice none 0 0) := (blk_cell BK305.1 0).trans rfl; have hcz24_1 : w21.cell? ⟨gb305, 1, none⟩ = some (.slice none 0 0) := (blk_cell BK305.1 1).trans rfl; have hfz24_0 := blk_frozen BK305.1 0; have hfz24_1 := blk_frozen BK305.1 1; obtain ⟨Ao25, co25, eo25⟩ := Kd.R_slice HO303.1; subst eo25; have hcz26_0 : w21.cell? ⟨gb290, 0, none⟩ = some (.slice A0_0 l0_0.length c0_0) := (blk_cell BK290.1 0).trans rfl; have hcz26_1 : w21.cell? ⟨gb290, 1, none⟩ = some (.slice A0_1 l0_1.length c0_1) := (blk_cell BK290.1 1).trans rfl; have hfz26_0 := blk_frozen BK290.1 0; have hfz26_1 := blk_frozen BK290.1 1) | ((with_reducible refine gate_callee (f := 17) rfl ?_); refine goesL_ (some 29) rfl rfl Try.func17 (by kernel_rfl) rfl #[.agg #[.slice A0_0 l0_0.length c0_0, .slice A0_1 l0_1.length c0_1]] rfl (by (try simp only [List.map_toArray, List.map_cons, List.map_nil]); first | done | rfl | (simp only [List.length_drop, List.length_take]; rfl)) ?_; (with_reducible refine (laws_toGloves.calls k _ _ l0_0 _ _ l0_1 t306 t309 _ ?side1 ?side2 ?side3 ?side4 A10.1).mono ?_); (case side1 => exact Kd.C_below HR0_0.1 (by repeat (first | (with_reducible first | exact HB.1 | apply below_alloc | apply pw_below_drewN | apply below_drew1 | refine below_set ?_ GE290.1 | refine below_set ?_ GE305.1) | exact HB.1))); (case side2 => exact HC0_0.1); (case side3 => exact Kd.C_below HR0_1.1 (by repeat (first | (with_reducible first | exact HB.1 | apply below_alloc | apply pw_below_drewN | apply below_drew1 | refine below_set ?_ GE290.1 | refine below_set ?_ GE305.1) | exact HB.1))); (case side4 => exact HC0_1.1); rintro e w27 ⟨v307, v310, rfl, ho0, ho1, hb⟩; refine ⟨_, rfl, ?_⟩; have n0_ := Aside0.mk (Kd.R_mono (Kd.R_told (Kd.R_told (Kd.R_old (by (with_reducible repeat (first | apply Kd.R_alloc | apply Kd.R_drewN | apply Kd.R_drew)); exact (Kd.R_mono (Kd.R_far (p := ⟨gb305, 1, none⟩) (Kd.R_far (p := ⟨gb305, 0, none⟩) (Kd.R_types HO294.1 BK305.1 (by decide)) (fun _ hk => hk.2) (.slice Ao22 t298.length co22)) (fun _ hk => hk.2) (.slice Ao25 t301.length co25)) (fun _ h_ => h_.1))) hb) (Kd.R_base ho0)) (Kd.R_base ho1)) (fun _ h_ => h_.1)); have n1_ := Aside0.mk (Kd.R_mono (Kd.R_told (Kd.R_told (Kd.R_old (by (with_reducible repeat (first | apply Kd.R_alloc | apply Kd.R_drewN | apply Kd.R_drew)); exact (Kd.R_mono (Kd.R_far (p := ⟨gb305, 1, none⟩) (Kd.R_far (p := ⟨gb305, 0, none⟩) (Kd.R_types HO297.1 BK305.1 (by decide)) (fun _ hk => hk.2) (.slice Ao22 t298.length co22)) (fun _ hk => hk.2) (.slice Ao25 t301.length co25)) (fun _ h_ => h_.1))) hb) (Kd.R_base ho0)) (Kd.R_base ho1)) (fun _ h_ => h_.1)); have n2_ := Aside0.mk (Kd.R_mono (Kd.R_told (Kd.R_told (Kd.R_old (by (with_reducible repeat (first | apply Kd.R_alloc | apply Kd.R_drewN | apply Kd.R_drew)); exact (Kd.R_mono (Kd.R_far (p := ⟨gb305, 1, none⟩) (Kd.R_far (p := ⟨gb305, 0, none⟩) (Kd.R_types HO300.1 BK305.1 (by decide)) (fun _ hk => hk.2) (.slice Ao22 t298.length co22)) (fun _ hk => hk.2) (.slice Ao25 t301.length co25)) (fun _ h_ => h_.1))) hb) (Kd.R_base ho0)) (Kd.R_base ho1)) (fun _ h_ => h_.1)); have n3_ := Aside0.mk (Kd.R_mono (Kd.R_told (Kd.R_told (Kd.R_old (by (with_reducible repeat (first | apply Kd.R_alloc | apply Kd.R_drewN | apply Kd.R_drew)); exact (Kd.R_mono (Kd.R_far (p := ⟨gb305, 1, none⟩) (Kd.R_far (p := ⟨gb305, 0, none⟩) (Kd.R_types HO303.1 BK305.1 (by decide)) (fun _ hk => hk.2) (.slice Ao22 t298.length co22)) (fun _ hk => hk.2) (.slice Ao25 t301.length co25)) (fun _ h_ => h_.1))) hb) (Kd.R_base ho0)) (Kd.R_base ho1)) (fun _ h_ => h_.1)); have n4_ := Aside0.mk (Kd.R_lower (Kd.R_new' (Kd.R_new' (Kd.R_new' (Kd.R_new' ho0 (Kd.R_lt (by (with_reducible repeat (first | apply Kd.R_alloc | apply Kd.R_drewN | apply Kd.R_drew)); exact (Kd.R_mono (Kd.R_far (p := ⟨gb305, 1, none⟩) (Kd.R_far (p := ⟨gb305, 0, none⟩) (Kd.R_types HO294.1 BK305.1 (by decide)) (fun _ hk => hk.2) (.slice Ao22 t298.length co22)) (fun _ hk => hk.2) (.slice Ao25 t301.length co25)) (fun _ h_ => h_.1))))) (Kd.R_lt (by (with_reducible repeat (first | apply Kd.R_alloc | apply Kd.R_drewN | apply Kd.R_drew)); exact (Kd.R_mono (Kd.R_far (p := ⟨gb305, 1, none⟩) (Kd.R_far (p := ⟨gb305, 0, none⟩) (Kd.R_types HO297.1 BK305.1 (by decide)) (fun _ hk => hk.2) (.slice Ao22 t298.length co22)) (fun _ hk => hk.2) (.slice Ao25 t301.length co25)) (fun _ h_ => h_.1))))) (Kd.R_lt (by (with_reducible repeat (first | apply Kd.R_alloc | apply Kd.R_drewN | apply Kd.R_drew)); exact (Kd.R_mono (Kd.R_far (p := ⟨gb305, 1, none⟩) (Kd.R_far (p := ⟨gb305, 0, none⟩) (Kd.R_types HO300.1 BK305.1 (by decide)) (fun _ hk => hk.2) (.slice Ao22 t298.length co22)) (fun _ hk => hk.2) (.slice Ao25 t301.length co25)) (fun _ h_ => h_.1))))) (Kd.R_lt (by (with_reducible repeat (first | apply Kd.R_alloc | apply Kd.R_drewN | apply Kd.R_drew)); exact (Kd.R_mono (Kd.R_far (p := ⟨gb305, 1, none⟩) (Kd.R_far (p := ⟨gb305, 0, none⟩) (Kd.R_types HO303.1 BK305.1 (by decide)) (fun _ hk => hk.2) (.slice Ao22 t298.length co22)) (fun _ hk => hk.2) (.slice Ao25 t301.length co25)) (fun _ h_ => h_.1))))) (below_size (by repeat (first | (with_reducible first | exact HB.1 | apply below_alloc | apply pw_below_drewN | apply below_drew1 | refine below_set ?_ GE290.1 | refine below_set ?_ GE305.1) | exact HB.1)))); have n5_ := Aside0.mk (Kd.R_lower (Kd.R_new' (Kd.R_new' (Kd.R_new' (Kd.R_new' ho1 (Kd.R_lt (by (with_reducible repeat (first | apply Kd.R_alloc | apply Kd.R_drewN | apply Kd.R_drew)); exact (Kd.R_mono (Kd.R_far (p := ⟨gb305, 1, none⟩) (Kd.R_far (p := ⟨gb305, 0, none⟩) (Kd.R_types HO294.1 BK305.1 (by decide)) (fun _ hk => hk.2) (.slice Ao22 t298.length co22)) (fun _ hk => hk.2) (.slice Ao25 t301.length co25)) (fun _ h_ => h_.1))))) (Kd.R_lt (by (with_reducible repeat (first | apply Kd.R_alloc | apply Kd.R_drewN | apply Kd.R_drew)); exact (Kd.R_mono (Kd.R_far (p := ⟨gb305, 1, none⟩) (Kd.R_far (p := ⟨gb305, 0, none⟩) (Kd.R_types HO297.1 BK305.1 (by decide)) (fun _ hk => hk.2) (.slice Ao22 t298.length co22)) (fun _ hk => hk.2) (.slice Ao25 t301.length co25)) (fun _ h_ => h_.1))))) (Kd.R_lt (by (with_reducible repeat (first | apply Kd.R_alloc | apply Kd.R_drewN | apply Kd.R_drew)); exact (Kd.R_mono (Kd.R_far (p := ⟨gb305, 1, none⟩) (Kd.R_far (p := ⟨gb305, 0, none⟩) (Kd.R_types HO300.1 BK305.1 (by decide)) (fun _ hk => hk.2) (.slice Ao22 t298.length co22)) (fun _ hk => hk.2) (.slice Ao25 t301.length co25)) (fun _ h_ => h_.1))))) (Kd.R_lt (by (with_reducible repeat (first | apply Kd.R_alloc | apply Kd.R_drewN | apply Kd.R_drew)); exact (Kd.R_mono (Kd.R_far (p := ⟨gb305, 1, none⟩) (Kd.R_far (p := ⟨gb305, 0, none⟩) (Kd.R_types HO303.1 BK305.1 (by decide)) (fun _ hk => hk.2) (.slice Ao22 t298.length co22)) (fun _ hk => hk.2) (.slice Ao25 t301.length co25)) (fun _ h_ => h_.1))))) (below_size (by repeat (first | (with_reducible first | exact HB.1 | apply below_alloc | apply pw_below_drewN | apply below_drew1 | refine below_set ?_ GE290.1 | refine below_set ?_ GE305.1) | exact HB.1)))); have n6_ := Aside0.mk (blk_below (g := gb290) (o := .cells #[.slice A0_0 l0_0.length c0_0, .slice A0_1 l0_1.length c0_1] 24 (0, 0)) (by (with_reducible repeat (first | refine blk_drewN ?_ _ | refine blk_drew ?_ | refine blk_alloc ?_ _)); refine blk_far ?_ NB290_305.1 _; (with_reducible repeat (first | refine blk_drewN ?_ _ | refine blk_drew ?_ | refine blk_alloc ?_ _)); refine blk_far ?_ NB290_305.1 _; (with_reducible repeat (first | refine blk_drewN ?_ _ | refine blk_drew ?_ | refine blk_alloc ?_ _)); exact BK290.1) hb); have n7_ := Aside0.mk (blk_below (g := gb305) (o := .cells #[.slice Ao22 t298.length co22, .slice Ao25 t301.length co25] 28 (0, 0)) (by (with_reducible repeat (first | refine blk_drewN ?_ _ | refine blk_drew ?_ | refine blk_alloc ?_ _)); refine blk_put (cs := #[.slice Ao22 t298.length co22, .slice none 0 0]) ?_ 1 _ rfl; (with_reducible repeat (first | refine blk_drewN ?_ _ | refine blk_drew ?_ | refine blk_alloc ?_ _)); refine blk_put (cs := #[.slice none 0 0, .slice none 0 0]) ?_ 0 _ rfl; (with_reducible repeat (first | refine blk_drewN ?_ _ | refine blk_drew ?_ | refine blk_alloc ?_ _)); exact BK305.1) hb); have n8_ := Aside0.mk (below_step (by repeat (first | (with_reducible first | exact HB.1 | apply below_alloc | apply pw_below_drewN | apply below_drew1 | refine below_set ?_ GE290.1 | refine below_set ?_ GE305.1) | exact HB.1)) hb); clear HO294; clear HO297; clear HO300; clear HO303; clear BK290; clear BK305; clear HB; have HO294 := n0_; have HO297 := n1_; have HO300 := n2_; have HO303 := n3_; have HO308 := n4_; have HO311 := n5_; have BK290 := n6_; have BK305 := n7_; have HB := n8_; clear n0_ n1_ n2_ n3_ n4_ n5_ n6_ n7_ n8_; (try clear hb); (try clear hb2); (try clear hk); (try clear hi); (try clear ho0); (try clear ho1)) | ((with_reducible refine gate_dst (N := 8) rfl ?_); refine box_event ?hg (N := 8) ?hd (cs := #[.slice none 0 0, .slice none 0 0]) (t := 28) ?hr ?_; (case hd => rfl); (case hg => rfl); (case hr => first | (go_simp; done) | (go_simp; rfl)); intro gb312 hg w28 hbox hb; have n0_ := Aside0.mk (Kd.R_below (by (with_reducible repeat (first | apply Kd.R_alloc | apply Kd.R_drewN | apply Kd.R_drew)); exact HO294.1) hb); have n1_ := Aside0.mk (Kd.R_below (by (with_reducible repeat (first | apply Kd.R_alloc | apply Kd.R_drewN | apply Kd.R_drew)); exact HO297.1) hb); have n2_ := Aside0.mk (Kd.R_below (by (with_reducible repeat (first | apply Kd.R_alloc | apply Kd.R_drewN | apply Kd.R_drew)); exact HO300.1) hb); have n3_ := Aside0.mk (Kd.R_below (by (with_reducible repeat (first | apply Kd.R_alloc | apply Kd.R_drewN | apply Kd.R_drew)); exact HO303.1) hb); have n4_ := Aside0.mk (Kd.R_below (by (with_reducible repeat (first | apply Kd.R_alloc | apply Kd.R_drewN | apply Kd.R_drew)); exact HO308.1) hb); have n5_ := Aside0.mk (Kd.R_below (by (with_reducible repeat (first | apply Kd.R_alloc | apply Kd.R_drewN | apply Kd.R_drew)); exact HO311.1) hb); have n6_ := Aside0.mk (blk_below (g := gb290) (o := .cells #[.slice A0_0 l0_0.length c0_0, .slice A0_1 l0_1.length c0_1] 24 (0, 0)) (by (with_reducible repeat (first | refine blk_drewN ?_ _ | refine blk_drew ?_ | refine blk_alloc ?_ _)); exact BK290.1) hb); have n7_ := Aside0.mk (blk_below (g := gb305) (o := .cells #[.slice Ao22 t298.length co22, .slice Ao25 t301.length co25] 28 (0, 0)) (by (with_reducible repeat (first | refine blk_drewN ?_ _ | refine blk_drew ?_ | refine blk_alloc ?_ _)); exact BK305.1) hb); have n8_ := Aside0.mk (below_step (by repeat (first | (with_reducible first | exact HB.1 | apply below_alloc | apply pw_below_drewN | apply below_drew1 | refine below_set ?_ GE290.1 | refine below_set ?_ GE305.1) | exact HB.1)) hb); have n9_ := Aside0.mk (hbox); have n10_ := Aside0.mk ((by rw [hg]; exact (below_size (by repeat (first | (with_reducible first | exact HB.1 | apply below_alloc | apply pw_below_drewN | apply below_drew1 | refine below_set ?_ GE290.1 | refine below_set ?_ GE305.1) | exact HB.1))) : w.heap.size ≤ gb312)); have n11_ := Aside0.mk ((by rw [hg]; exact (below_size (by repeat (first | (with_reducible first | exact HB.1 | apply below_alloc | apply pw_below_drewN | apply below_drew1 | refine below_set ?_ GE290.1 | refine below_set ?_ GE305.1) | exact HB.1))) : w.heap.size ≤ gb312)); have n12_ := Aside0.mk ((by rw [hg]; exact Nat.ne_of_lt (blk_lt (g := gb290) (o := .cells #[.slice A0_0 l0_0.length c0_0, .slice A0_1 l0_1.length c0_1] 24 (0, 0)) (by (with_reducible repeat (first | refine blk_drewN ?_ _ | refine blk_drew ?_ | refine blk_alloc ?_ _)); exact BK290.1)) : gb290 ≠ gb312)); have n13_ := Aside0.mk ((by rw [hg]; exact Nat.ne_of_gt (blk_lt (g := gb290) (o := .cells #[.slice A0_0 l0_0.length c0_0, .slice A0_1 l0_1.length c0_1] 24 (0, 0)) (by (with_reducible repeat (first | refine blk_drewN ?_ _ | refine blk_drew ?_ | refine blk_alloc ?_ _)); exact BK290.1)) : gb312 ≠ gb290)); have n14_ := Aside0.mk ((by rw [hg]; exact Nat.ne_of_lt (blk_lt (g := gb305) (o := .cells #[.slice Ao22 t298.length co22, .slice Ao25 t301.length co25] 28 (0, 0)) (by (with_reducible repeat (first | refine blk_drewN ?_ _ | refine blk_drew ?_ | refine blk_alloc ?_ _)); exact BK305.1)) : gb305 ≠ gb312)); have n15_ := Aside0.mk ((by rw [hg]; exact Nat.ne_of_gt (blk_lt (g := gb305) (o := .cells #[.slice Ao22 t298.length co22, .slice Ao25 t301.length co25] 28 (0, 0)) (by (with_reducible repeat (first | refine blk_drewN ?_ _ | refine blk_drew ?_ | refine blk_alloc ?_ _)); exact BK305.1)) : gb312 ≠ gb305)); clear HO294; clear HO297; clear HO300; clear HO303; clear HO308; clear HO311; clear BK290; clear BK305; clear HB; have HO294 := n0_; have HO297 := n1_; have HO300 := n2_; have HO303 := n3_; have HO308 := n4_; have HO311 := n5_; have BK290 := n6_; have BK305 := n7_; have HB := n8_; have BK312 := n9_; have GW312 := n10_; have GE312 := n11_; have NB290_312 := n12_; have NB312_290 := n13_; have NB305_312 := n14_; have NB312_305 := n15_; clear n0_ n1_ n2_ n3_ n4_ n5_ n6_ n7_ n8_ n9_ n10_ n11_ n12_ n13_ n14_ n15_; clear hb hbox hg; obtain ⟨Ao29, co29, eo29⟩ := Kd.R_slice HO308.1; subst eo29; have hnb30 := NB312_290.1; have hnc30 := NB290_312.1; have hnb31 := NB312_305.1; have hnc31 := NB305_312.1; have hcz32_0 : w28.cell? ⟨gb312, 0, none⟩ = some (.slice none 0 0) := (blk_cell BK312.1 0).trans rfl; have hcz32_1 : w28.cell? ⟨gb312, 1, none⟩ = some (.slice none 0 0) := (blk_cell BK312.1 1).trans rfl; have hfz32_0 := blk_frozen BK312.1 0; have hfz32_1 := blk_frozen BK312.1 1; obtain ⟨Ao33, co33, eo33⟩ := Kd.R_slice HO311.1; subst eo33) | ((with_reducible refine gate_callee (f := 43) rfl ?_); refine goesL_ (some 33) rfl rfl Try.func43 (by kernel_rfl) rfl #[.agg #[.slice Ao29 t306.length co29, .slice Ao33 t309.length co33], .int .i64 a1] rfl (by (try simp only [List.map_toArray, List.map_cons, List.map_nil]); first | done | rfl | (simp only [List.length_drop, List.length_take]; rfl)) ?_; (with_reducible refine (impl_WorstGloves.calls k _ _ t306 _ _ t309 a1 t313 t316 t319 _ ?side1 ?side2 ?side3 ?side4 A11.1).mono ?_); (case side1 => refine (Kd.R_reads' (e := 3) (base := w.heap.size) (ok := fun k_ => ((((some k_ ≠ (.slice Ao33 t309.length co33 : Value).ownBlock ∧ some k_ ≠ (.slice Ao18 t292.length co18 : Value).ownBlock) ∧ some k_ ≠ (.slice Ao19 t295.length co19 : Value).ownBlock) ∧ some k_ ≠ (.slice Ao22 t298.length co22 : Value).ownBlock) ∧ some k_ ≠ (.slice Ao25 t301.length co25 : Value).ownBlock)) (n := t306.length) (c := co29) ?_).2.2; exact (by (with_reducible repeat (first | apply Kd.R_alloc | apply Kd.R_drewN | apply Kd.R_drew)); exact (Kd.R_mono (Kd.R_far (p := ⟨gb312, 1, none⟩) (Kd.R_far (p := ⟨gb312, 0, none⟩) (Kd.R_types HO308.1 BK312.1 (by decide)) (fun _ hk => hk.2) (.slice Ao29 t306.length co29)) (fun _ hk => hk.2) (.slice Ao33 t309.length co33)) (fun _ h_ => h_.1)))); (case side2 => exact (Kd.R_reads' HO308.1).2.1); (case side3 => refine (Kd.R_reads' (e := 3) (base := w.heap.size) (ok := fun k_ => ((((some k_ ≠ (.slice Ao29 t306.length co29 : Value).ownBlock ∧ some k_ ≠ (.slice Ao18 t292.length co18 : Value).ownBlock) ∧ some k_ ≠ (.slice Ao19 t295.length co19 : Value).ownBlock) ∧ some k_ ≠ (.slice Ao22 t298.length co22 : Value).ownBlock) ∧ some k_ ≠ (.slice Ao25 t301.length co25 : Value).ownBlock)) (n := t309.length) (c := co33) ?_).2.2; exact (by (with_reducible repeat (first | apply Kd.R_alloc | apply Kd.R_drewN | apply Kd.R_drew)); exact (Kd.R_mono (Kd.R_far (p := ⟨gb312, 1, none⟩) (Kd.R_far (p := ⟨gb312, 0, none⟩) (Kd.R_types HO311.1 BK312.1 (by decide)) (fun _ hk => hk.2) (.slice Ao29 t306.length co29)) (fun _ hk => hk.2) (.slice Ao33 t309.length co33)) (fun _ h_ => h_.1)))); (case side4 => exact (Kd.R_reads' HO311.1).2.1); rintro e w34 ⟨v314, v317, rfl, ho0, ho1, hb⟩; refine ⟨_, rfl, ?_⟩; have n0_ := Aside0.mk (Kd.R_mono (Kd.R_told (Kd.R_told (Kd.R_old (by (with_reducible repeat (first | apply Kd.R_alloc | apply Kd.R_drewN | apply Kd.R_drew)); exact (Kd.R_mono (Kd.R_far (p := ⟨gb312, 1, none⟩) (Kd.R_far (p := ⟨gb312, 0, none⟩) (Kd.R_types HO294.1 BK312.1 (by decide)) (fun _ hk => hk.2) (.slice Ao29 t306.length co29)) (fun _ hk => hk.2) (.slice Ao33 t309.length co33)) (fun _ h_ => h_.1))) hb) (Kd.R_base ho0)) (Kd.R_base ho1)) (fun _ h_ => h_.1)); have n1_ := Aside0.mk (Kd.R_mono (Kd.R_told (Kd.R_told (Kd.R_old (by (with_reducible repeat (first | apply Kd.R_alloc | apply Kd.R_drewN | apply Kd.R_drew)); exact (Kd.R_mono (Kd.R_far (p := ⟨gb312, 1, none⟩) (Kd.R_far (p := ⟨gb312, 0, none⟩) (Kd.R_types HO297.1 BK312.1 (by decide)) (fun _ hk => hk.2) (.slice Ao29 t306.length co29)) (fun _ hk => hk.2) (.slice Ao33 t309.length co33)) (fun _ h_ => h_.1))) hb) (Kd.R_base ho0)) (Kd.R_base ho1)) (fun _ h_ => h_.1)); have n2_ := Aside0.mk (Kd.R_mono (Kd.R_told (Kd.R_told (Kd.R_old (by (with_reducible repeat (first | apply Kd.R_alloc | apply Kd.R_drewN | apply Kd.R_drew)); exact (Kd.R_mono (Kd.R_far (p := ⟨gb312, 1, none⟩) (Kd.R_far (p := ⟨gb312, 0, none⟩) (Kd.R_types HO300.1 BK312.1 (by decide)) (fun _ hk => hk.2) (.slice Ao29 t306.length co29)) (fun _ hk => hk.2) (.slice Ao33 t309.length co33)) (fun _ h_ => h_.1))) hb) (Kd.R_base ho0)) (Kd.R_base ho1)) (fun _ h_ => h_.1)); have n3_ := Aside0.mk (Kd.R_mono (Kd.R_told (Kd.R_told (Kd.R_old (by (with_reducible repeat (first | apply Kd.R_alloc | apply Kd.R_drewN | apply Kd.R_drew)); exact (Kd.R_mono (Kd.R_far (p := ⟨gb312, 1, none⟩) (Kd.R_far (p := ⟨gb312, 0, none⟩) (Kd.R_types HO303.1 BK312.1 (by decide)) (fun _ hk => hk.2) (.slice Ao29 t306.length co29)) (fun _ hk => hk.2) (.slice Ao33 t309.length co33)) (fun _ h_ => h_.1))) hb) (Kd.R_base ho0)) (Kd.R_base ho1)) (fun _ h_ => h_.1)); have n4_ := Aside0.mk (Kd.R_mono (Kd.R_told (Kd.R_told (Kd.R_old (by (with_reducible repeat (first | apply Kd.R_alloc | apply Kd.R_drewN | apply Kd.R_drew)); exact (Kd.R_mono (Kd.R_far (p := ⟨gb312, 1, none⟩) (Kd.R_far (p := ⟨gb312, 0, none⟩) (Kd.R_types HO308.1 BK312.1 (by decide)) (fun _ hk => hk.2) (.slice Ao29 t306.length co29)) (fun _ hk => hk.2) (.slice Ao33 t309.length co33)) (fun _ h_ => h_.1))) hb) (Kd.R_base ho0)) (Kd.R_base ho1)) (fun _ h_ => h_.1)); have n5_ := Aside0.mk (Kd.R_mono (Kd.R_told (Kd.R_told (Kd.R_old (by (with_reducible repeat (first | apply Kd.R_alloc | apply Kd.R_drewN | apply Kd.R_drew)); exact (Kd.R_mono (Kd.R_far (p := ⟨gb312, 1, none⟩) (Kd.R_far (p := ⟨gb312, 0, none⟩) (Kd.R_types HO311.1 BK312.1 (by decide)) (fun _ hk => hk.2) (.slice Ao29 t306.length co29)) (fun _ hk => hk.2) (.slice Ao33 t309.length co33)) (fun _ h_ => h_.1))) hb) (Kd.R_base ho0)) (Kd.R_base ho1)) (fun _ h_ => h_.1)); have n6_ := Aside0.mk (Kd.R_lower (Kd.R_new' (Kd.R_new' (Kd.R_new' (Kd.R_new' (Kd.R_new' (Kd.R_new' ho0 (Kd.R_lt (by (with_reducible repeat (first | apply Kd.R_alloc | apply Kd.R_drewN | apply Kd.R_drew)); exact (Kd.R_mono (Kd.R_far (p := ⟨gb312, 1, none⟩) (Kd.R_far (p := ⟨gb312, 0, none⟩) (Kd.R_types HO294.1 BK312.1 (by decide)) (fun _ hk => hk.2) (.slice Ao29 t306.length co29)) (fun _ hk => hk.2) (.slice Ao33 t309.length co33)) (fun _ h_ => h_.1))))) (Kd.R_lt (by (with_reducible repeat (first | apply Kd.R_alloc | apply Kd.R_drewN | apply Kd.R_drew)); exact (Kd.R_mono (Kd.R_far (p := ⟨gb312, 1, none⟩) (Kd.R_far (p := ⟨gb312, 0, none⟩) (Kd.R_types HO297.1 BK312.1 (by decide)) (fun _ hk => hk.2) (.slice Ao29 t306.length co29)) (fun _ hk => hk.2) (.slice Ao33 t309.length co33)) (fun _ h_ => h_.1))))) (Kd.R_lt (by (with_reducible repeat (first | apply Kd.R_alloc | apply Kd.R_drewN | apply Kd.R_drew)); exact (Kd.R_mono (Kd.R_far (p := ⟨gb312, 1, none⟩) (Kd.R_far (p := ⟨gb312, 0, none⟩) (Kd.R_types HO300.1 BK312.1 (by decide)) (fun _ hk => hk.2) (.slice Ao29 t306.length co29)) (fun _ hk => hk.2) (.slice Ao33 t309.length co33)) (fun _ h_ => h_.1))))) (Kd.R_lt (by (with_reducible repeat (first | apply Kd.R_alloc | apply Kd.R_drewN | apply Kd.R_drew)); exact (Kd.R_mono (Kd.R_far (p := ⟨gb312, 1, none⟩) (Kd.R_far (p := ⟨gb312, 0, none⟩) (Kd.R_types HO303.1 BK312.1 (by decide)) (fun _ hk => hk.2) (.slice Ao29 t306.length co29)) (fun _ hk => hk.2) (.slice Ao33 t309.length co33)) (fun _ h_ => h_.1))))) (Kd.R_lt (by (with_reducible repeat (first | apply Kd.R_alloc | apply Kd.R_drewN | apply Kd.R_drew)); exact (Kd.R_mono (Kd.R_far (p := ⟨gb312, 1, none⟩) (Kd.R_far (p := ⟨gb312, 0, none⟩) (Kd.R_types HO308.1 BK312.1 (by decide)) (fun _ hk => hk.2) (.slice Ao29 t306.length co29)) (fun _ hk => hk.2) (.slice Ao33 t309.length co33)) (fun _ h_ => h_.1))))) (Kd.R_lt (by (with_reducible repeat (first | apply Kd.R_alloc | apply Kd.R_drewN | apply Kd.R_drew)); exact (Kd.R_mono (Kd.R_far (p := ⟨gb312, 1, none⟩) (Kd.R_far (p := ⟨gb312, 0, none⟩) (Kd.R_types HO311.1 BK312.1 (by decide)) (fun _ hk => hk.2) (.slice Ao29 t306.length co29)) (fun _ hk => hk.2) (.slice Ao33 t309.length co33)) (fun _ h_ => h_.1))))) (below_size (by repeat (first | (with_reducible first | exact HB.1 | apply below_alloc | apply pw_below_drewN | apply below_drew1 | refine below_set ?_ GE290.1 | refine below_set ?_ GE305.1 | refine below_set ?_ GE312.1) | exact HB.1)))); have n7_ := Aside0.mk (Kd.R_lower (Kd.R_new' (Kd.R_new' (Kd.R_new' (Kd.R_new' (Kd.R_new' (Kd.R_new' ho1 (Kd.R_lt (by (with_reducible repeat (first | apply Kd.R_alloc | apply Kd.R_drewN | apply Kd.R_drew)); exact (Kd.R_mono (Kd.R_far (p := ⟨gb312, 1, none⟩) (Kd.R_far (p := ⟨gb312, 0, none⟩) (Kd.R_types HO294.1 BK312.1 (by decide)) (fun _ hk => hk.2) (.slice Ao29 t306.length co29)) (fun _ hk => hk.2) (.slice Ao33 t309.length co33)) (fun _ h_ => h_.1))))) (Kd.R_lt (by (with_reducible repeat (first | apply Kd.R_alloc | apply Kd.R_drewN | apply Kd.R_drew)); exact (Kd.R_mono (Kd.R_far (p := ⟨gb312, 1, none⟩) (Kd.R_far (p := ⟨gb312, 0, none⟩) (Kd.R_types HO297.1 BK312.1 (by decide)) (fun _ hk => hk.2) (.slice Ao29 t306.length co29)) (fun _ hk => hk.2) (.slice Ao33 t309.length co33)) (fun _ h_ => h_.1))))) (Kd.R_lt (by (with_reducible repeat (first | apply Kd.R_alloc | apply Kd.R_drewN | apply Kd.R_drew)); exact (Kd.R_mono (Kd.R_far (p := ⟨gb312, 1, none⟩) (Kd.R_far (p := ⟨gb312, 0, none⟩) (Kd.R_types HO300.1 BK312.1 (by decide)) (fun _ hk => hk.2) (.slice Ao29 t306.length co29)) (fun _ hk => hk.2) (.slice Ao33 t309.length co33)) (fun _ h_ => h_.1))))) (Kd.R_lt (by (with_reducible repeat (first | apply Kd.R_alloc | apply Kd.R_drewN | apply Kd.R_drew)); exact (Kd.R_mono (Kd.R_far (p := ⟨gb312, 1, none⟩) (Kd.R_far (p := ⟨gb312, 0, none⟩) (Kd.R_types HO303.1 BK312.1 (by decide)) (fun _ hk => hk.2) (.slice Ao29 t306.length co29)) (fun _ hk => hk.2) (.slice Ao33 t309.length co33)) (fun _ h_ => h_.1))))) (Kd.R_lt (by (with_reducible repeat (first | apply Kd.R_alloc | apply Kd.R_drewN | apply Kd.R_drew)); exact (Kd.R_mono (Kd.R_far (p := ⟨gb312, 1, none⟩) (Kd.R_far (p := ⟨gb312, 0, none⟩) (Kd.R_types HO308.1 BK312.1 (by decide)) (fun _ hk => hk.2) (.slice Ao29 t306.length co29)) (fun _ hk => hk.2) (.slice Ao33 t309.length co33)) (fun _ h_ => h_.1))))) (Kd.R_lt (by (with_reducible repeat (first | apply Kd.R_alloc | apply Kd.R_drewN | apply Kd.R_drew)); exact (Kd.R_mono (Kd.R_far (p := ⟨gb312, 1, none⟩) (Kd.R_far (p := ⟨gb312, 0, none⟩) (Kd.R_types HO311.1 BK312.1 (by decide)) (fun _ hk => hk.2) (.slice Ao29 t306.length co29)) (fun _ hk => hk.2) (.slice Ao33 t309.length co33)) (fun _ h_ => h_.1))))) (below_size (by repeat (first | (with_reducible first | exact HB.1 | apply below_alloc | apply pw_below_drewN | apply below_drew1 | refine below_set ?_ GE290.1 | refine below_set ?_ GE305.1 | refine below_set ?_ GE312.1) | exact HB.1)))); have n8_ := Aside0.mk (blk_below (g := gb290) (o := .cells #[.slice A0_0 l0_0.length c0_0, .slice A0_1 l0_1.length c0_1] 24 (0, 0)) (by (with_reducible repeat (first | refine blk_drewN ?_ _ | refine blk_drew ?_ | refine blk_alloc ?_ _)); refine blk_far ?_ NB290_312.1 _; (with_reducible repeat (first | refine blk_drewN ?_ _ | refine blk_drew ?_ | refine blk_alloc ?_ _)); refine blk_far ?_ NB290_312.1 _; (with_reducible repeat (first | refine blk_drewN ?_ _ | refine blk_drew ?_ | refine blk_alloc ?_ _)); exact BK290.1) hb); have n9_ := Aside0.mk (blk_below (g := gb305) (o := .cells #[.slice Ao22 t298.length co22, .slice Ao25 t301.length co25] 28 (0, 0)) (by (with_reducible repeat (first | refine blk_drewN ?_ _ | refine blk_drew ?_ | refine blk_alloc ?_ _)); refine blk_far ?_ NB305_312.1 _; (with_reducible repeat (first | refine blk_drewN ?_ _ | refine blk_drew ?_ | refine blk_alloc ?_ _)); refine blk_far ?_ NB305_312.1 _; (with_reducible repeat (first | refine blk_drewN ?_ _ | refine blk_drew ?_ | refine blk_alloc ?_ _)); exact BK305.1) hb); have n10_ := Aside0.mk (blk_below (g := gb312) (o := .cells #[.slice Ao29 t306.length co29, .slice Ao33 t309.length co33] 28 (0, 0)) (by (with_reducible repeat (first | refine blk_drewN ?_ _ | refine blk_drew ?_ | refine blk_alloc ?_ _)); refine blk_put (cs := #[.slice Ao29 t306.length co29, .slice none 0 0]) ?_ 1 _ rfl; (with_reducible repeat (first | refine blk_drewN ?_ _ | refine blk_drew ?_ | refine blk_alloc ?_ _)); refine blk_put (cs := #[.slice none 0 0, .slice none 0 0]) ?_ 0 _ rfl; (with_reducible repeat (first | refine blk_drewN ?_ _ | refine blk_drew ?_ | refine blk_alloc ?_ _)); exact BK312.1) hb); have n11_ := Aside0.mk (below_step (by repeat (first | (with_reducible first | exact HB.1 | apply below_alloc | apply pw_below_drewN | apply below_drew1 | refine below_set ?_ GE290.1 | refine below_set ?_ GE305.1 | refine below_set ?_ GE312.1) | exact HB.1)) hb); clear HO294; clear HO297; clear HO300; clear HO303; clear HO308; clear HO311; clear BK290; clear BK305; clear BK312; clear HB; have HO294 := n0_; have HO297 := n1_; have HO300 := n2_; have HO303 := n3_; have HO308 := n4_; have HO311 := n5_; have HO315 := n6_; have HO318 := n7_; have BK290 := n8_; have BK305 := n9_; have BK312 := n10_; have HB := n11_; clear n0_ n1_ n2_ n3_ n4_ n5_ n6_ n7_ n8_ n9_ n10_ n11_; (try clear hb); (try clear hb2); (try clear hk); (try clear hi); (try clear ho0); (try clear ho1)) | ((with_reducible refine gate_dst (N := 9) rfl ?_); refine box_event ?hg (N := 9) ?hd (cs := #[.slice none 0 0, .slice none 0 0]) (t := 28) ?hr ?_; (case hd => rfl); (case hg => rfl); (case hr => first | (go_simp; done) | (go_simp; rfl)); intro gb320 hg w35 hbox hb; have n0_ := Aside0.mk (Kd.R_below (by (with_reducible repeat (first | apply Kd.R_alloc | apply Kd.R_drewN | apply Kd.R_drew)); exact HO294.1) hb); have n1_ := Aside0.mk (Kd.R_below (by (with_reducible repeat (first | apply Kd.R_alloc | apply Kd.R_drewN | apply Kd.R_drew)); exact HO297.1) hb); have n2_ := Aside0.mk (Kd.R_below (by (with_reducible repeat (first | apply Kd.R_alloc | apply Kd.R_drewN | apply Kd.R_drew)); exact HO300.1) hb); have n3_ := Aside0.mk (Kd.R_below (by (with_reducible repeat (first | apply Kd.R_alloc | apply Kd.R_drewN | apply Kd.R_drew)); exact HO303.1) hb); have n4_ := Aside0.mk (Kd.R_below (by (with_reducible repeat (first | apply Kd.R_alloc | apply Kd.R_drewN | apply Kd.R_drew)); exact HO308.1) hb); have n5_ := Aside0.mk (Kd.R_below (by (with_reducible repeat (first | apply Kd.R_alloc | apply Kd.R_drewN | apply Kd.R_drew)); exact HO311.1) hb); have n6_ := Aside0.mk (Kd.R_below (by (with_reducible repeat (first | apply Kd.R_alloc | apply Kd.R_drewN | apply Kd.R_drew)); exact HO315.1) hb); have n7_ := Aside0.mk (Kd.R_below (by (with_reducible repeat (first | apply Kd.R_alloc | apply Kd.R_drewN | apply Kd.R_drew)); exact HO318.1) hb); have n8_ := Aside0.mk (blk_below (g := gb290) (o := .cells #[.slice A0_0 l0_0.length c0_0, .slice A0_1 l0_1.length c0_1] 24 (0, 0)) (by (with_reducible repeat (first | refine blk_drewN ?_ _ | refine blk_drew ?_ | refine blk_alloc ?_ _)); exact BK290.1) hb); have n9_ := Aside0.mk (blk_below (g := gb305) (o := .cells #[.slice Ao22 t298.length co22, .slice Ao25 t301.length co25] 28 (0, 0)) (by (with_reducible repeat (first | refine blk_drewN ?_ _ | refine blk_drew ?_ | refine blk_alloc ?_ _)); exact BK305.1) hb); have n10_ := Aside0.mk (blk_below (g := gb312) (o := .cells #[.slice Ao29 t306.length co29, .slice Ao33 t309.length co33] 28 (0, 0)) (by (with_reducible repeat (first | refine blk_drewN ?_ _ | refine blk_drew ?_ | refine blk_alloc ?_ _)); exact BK312.1) hb); have n11_ := Aside0.mk (below_step (by repeat (first | (with_reducible first | exact HB.1 | apply below_alloc | apply pw_below_drewN | apply below_drew1 | refine below_set ?_ GE290.1 | refine below_set ?_ GE305.1 | refine below_set ?_ GE312.1) | exact HB.1)) hb); have n12_ := Aside0.mk (hbox); have n13_ := Aside0.mk ((by rw [hg]; exact (below_size (by repeat (first | (with_reducible first | exact HB.1 | apply below_alloc | apply pw_below_drewN | apply below_drew1 | refine below_set ?_ GE290.1 | refine below_set ?_ GE305.1 | refine below_set ?_ GE312.1) | exact HB.1))) : w.heap.size ≤ gb320)); have n14_ := Aside0.mk ((by rw [hg]; exact (below_size (by repeat (first | (with_reducible first | exact HB.1 | apply below_alloc | apply pw_below_drewN | apply below_drew1 | refine below_set ?_ GE290.1 | refine below_set ?_ GE305.1 | refine below_set ?_ GE312.1) | exact HB.1))) : w.heap.size ≤ gb320)); have n15_ := Aside0.mk ((by rw [hg]; exact Nat.ne_of_lt (blk_lt (g := gb290) (o := .cells #[.slice A0_0 l0_0.length c0_0, .slice A0_1 l0_1.length c0_1] 24 (0, 0)) (by (with_reducible repeat (first | refine blk_drewN ?_ _ | refine blk_drew ?_ | refine blk_alloc ?_ _)); exact BK290.1)) : gb290 ≠ gb320)); have n16_ := Aside0.mk ((by rw [hg]; exact Nat.ne_of_gt (blk_lt (g := gb290) (o := .cells #[.slice A0_0 l0_0.length c0_0, .slice A0_1 l0_1.length c0_1] 24 (0, 0)) (by (with_reducible repeat (first | refine blk_drewN ?_ _ | refine blk_drew ?_ | refine blk_alloc ?_ _)); exact BK290.1)) : gb320 ≠ gb290)); have n17_ := Aside0.mk ((by rw [hg]; exact Nat.ne_of_lt (blk_lt (g := gb305) (o := .cells #[.slice Ao22 t298.length co22, .slice Ao25 t301.length co25] 28 (0, 0)) (by (with_reducible repeat (first | refine blk_drewN ?_ _ | refine blk_drew ?_ | refine blk_alloc ?_ _)); exact BK305.1)) : gb305 ≠ gb320)); have n18_ := Aside0.mk ((by rw [hg]; exact Nat.ne_of_gt (blk_lt (g := gb305) (o := .cells #[.slice Ao22 t298.length co22, .slice Ao25 t301.length co25] 28 (0, 0)) (by (with_reducible repeat (first | refine blk_drewN ?_ _ | refine blk_drew ?_ | refine blk_alloc ?_ _)); exact BK305.1)) : gb320 ≠ gb305)); have n19_ := Aside0.mk ((by rw [hg]; exact Nat.ne_of_lt (blk_lt (g := gb312) (o := .cells #[.slice Ao29 t306.length co29, .slice Ao33 t309.length co33] 28 (0, 0)) (by (with_reducible repeat (first | refine blk_drewN ?_ _ | refine blk_drew ?_ | refine blk_alloc ?_ _)); exact BK312.1)) : gb312 ≠ gb320)); have n20_ := Aside0.mk ((by rw [hg]; exact Nat.ne_of_gt (blk_lt (g := gb312) (o := .cells #[.slice Ao29 t306.length co29, .slice Ao33 t309.length co33] 28 (0, 0)) (by (with_reducible repeat (first | refine blk_drewN ?_ _ | refine blk_drew ?_ | refine blk_alloc ?_ _)); exact BK312.1)) : gb320 ≠ gb312)); clear HO294; clear HO297; clear HO300; clear HO303; clear HO308; clear HO311; clear HO315; clear HO318; clear BK290; clear BK305; clear BK312; clear HB; have HO294 := n0_; have HO297 := n1_; have HO300 := n2_; have HO303 := n3_; have HO308 := n4_; have HO311 := n5_; have HO315 := n6_; have HO318 := n7_; have BK290 := n8_; have BK305 := n9_; have BK312 := n10_; have HB := n11_; have BK320 := n12_; have GW320 := n13_; have GE320 := n14_; have NB290_320 := n15_; have NB320_290 := n16_; have NB305_320 := n17_; have NB320_305 := n18_; have NB312_320 := n19_; have NB320_312 := n20_; clear n0_ n1_ n2_ n3_ n4_ n5_ n6_ n7_ n8_ n9_ n10_ n11_ n12_ n13_ n14_ n15_ n16_ n17_ n18_ n19_ n20_; clear hb hbox hg; obtain ⟨Ao36, co36, eo36⟩ := Kd.R_slice HO315.1; subst eo36; have hnb37 := NB320_290.1; have hnc37 := NB290_320.1; have hnb38 := NB320_305.1; have hnc38 := NB305_320.1; have hnb39 := NB320_312.1; have hnc39 := NB312_320.1; have hcz40_0 : w35.cell? ⟨gb320, 0, none⟩ = some (.slice none 0 0) := (blk_cell BK320.1 0).trans rfl; have hcz40_1 : w35.cell? ⟨gb320, 1, none⟩ = some (.slice none 0 0) := (blk_cell BK320.1 1).trans rfl; have hfz40_0 := blk_frozen BK320.1 0; have hfz40_1 := blk_frozen BK320.1 1; obtain ⟨Ao41, co41, eo41⟩ := Kd.R_slice HO318.1; subst eo41))
  (try simp only [Act.put, List.setIfInBounds_toArray, List.set_cons_zero, List.set_cons_succ])
  go_cut [44] (fun v44 wc => ∃ (kq : Nat) (x44_11 : Bool), v44 = .bool x44_11 ∧ Aside0 (laws_FnExactWorstGloves.j0 kq a1 t304 t319 x44_11 l0_0 l0_1 t298 t301 t306 t309 t313 t316 = some r) ∧ Aside0 (kq ≤ k) ∧ Aside0 (Kd.R (Kd.int .i64) 3 wc w.heap.size (fun k_ => some k_ ≠ ((.slice Ao25 t301.length co25) : Value).ownBlock ∧ some k_ ≠ ((.slice Ao29 t306.length co29) : Value).ownBlock ∧ some k_ ≠ ((.slice Ao33 t309.length co33) : Value).ownBlock ∧ some k_ ≠ ((.slice Ao36 t313.length co36) : Value).ownBlock ∧ some k_ ≠ ((.slice Ao41 t316.length co41) : Value).ownBlock) (.slice Ao22 t298.length co22) t298) ∧ Aside0 (Kd.R (Kd.int .i64) 3 wc w.heap.size (fun k_ => some k_ ≠ ((.slice Ao22 t298.length co22) : Value).ownBlock ∧ some k_ ≠ ((.slice Ao29 t306.length co29) : Value).ownBlock ∧ some k_ ≠ ((.slice Ao33 t309.length co33) : Value).ownBlock ∧ some k_ ≠ ((.slice Ao36 t313.length co36) : Value).ownBlock ∧ some k_ ≠ ((.slice Ao41 t316.length co41) : Value).ownBlock) (.slice Ao25 t301.length co25) t301) ∧ Aside0 (Kd.R (Kd.int .i64) 3 wc w.heap.size (fun k_ => some k_ ≠ ((.slice Ao22 t298.length co22) : Value).ownBlock ∧ some k_ ≠ ((.slice Ao25 t301.length co25) : Value).ownBlock ∧ some k_ ≠ ((.slice Ao33 t309.length co33) : Value).ownBlock ∧ some k_ ≠ ((.slice Ao36 t313.length co36) : Value).ownBlock ∧ some k_ ≠ ((.slice Ao41 t316.length co41) : Value).ownBlock) (.slice Ao29 t306.length co29) t306) ∧ Aside0 (Kd.R (Kd.int .i64) 3 wc w.heap.size (fun k_ => some k_ ≠ ((.slice Ao22 t298.length co22) : Value).ownBlock ∧ some k_ ≠ ((.slice Ao25 t301.length co25) : Value).ownBlock ∧ some k_ ≠ ((.slice Ao29 t306.length co29) : Value).ownBlock ∧ some k_ ≠ ((.slice Ao36 t313.length co36) : Value).ownBlock ∧ some k_ ≠ ((.slice Ao41 t316.length co41) : Value).ownBlock) (.slice Ao33 t309.length co33) t309) ∧ Aside0 (Kd.R (Kd.int .i64) 3 wc w.heap.size (fun k_ => some k_ ≠ ((.slice Ao22 t298.length co22) : Value).ownBlock ∧ some k_ ≠ ((.slice Ao25 t301.length co25) : Value).ownBlock ∧ some k_ ≠ ((.slice Ao29 t306.length co29) : Value).ownBlock ∧ some k_ ≠ ((.slice Ao33 t309.length co33) : Value).ownBlock ∧ some k_ ≠ ((.slice Ao41 t316.length co41) : Value).ownBlock) (.slice Ao36 t313.length co36) t313) ∧ Aside0 (Kd.R (Kd.int .i64) 3 wc w.heap.size (fun k_ => some k_ ≠ ((.slice Ao22 t298.length co22) : Value).ownBlock ∧ some k_ ≠ ((.slice Ao25 t301.length co25) : Value).ownBlock ∧ some k_ ≠ ((.slice Ao29 t306.length co29) : Value).ownBlock ∧ some k_ ≠ ((.slice Ao33 t309.length co33) : Value).ownBlock ∧ some k_ ≠ ((.slice Ao36 t313.length co36) : Value).ownBlock) (.slice Ao41 t316.length co41) t316) ∧ Aside0 (wc.heap[gb290]? = some (.cells #[(.slice A0_0 l0_0.length c0_0), (.slice A0_1 l0_1.length c0_1)] 24 (0, 0))) ∧ Aside0 (wc.heap[gb305]? = some (.cells #[(.slice Ao22 t298.length co22), (.slice Ao25 t301.length co25)] 28 (0, 0))) ∧ Aside0 (wc.heap[gb312]? = some (.cells #[(.slice Ao29 t306.length co29), (.slice Ao33 t309.length co33)] 28 (0, 0))) ∧ Aside0 (wc.heap[gb320]? = some (.cells #[(.slice Ao36 t313.length co36), (.slice Ao41 t316.length co41)] 28 (0, 0))) ∧ Aside0 (Below w.heap.size w wc))
  case first =>
   have H := HC12.1
   clear HC12
   replace H := Option.bind_eq_some_iff.mp H
   obtain ⟨t321, A420, H⟩ := H
   replace H : (if t321 = true then (laws_FnExactWorstGloves.j0 k a1 t304 t319 (t319 != t304) l0_0 l0_1 t298 t301 t306 t309 t313 t316) else (laws_FnExactWorstGloves.j0 k a1 t304 t319 true l0_0 l0_1 t298 t301 t306 t309 t313 t316)) = some r := H
   have A42 := Aside0.mk A420
   clear A420
   by_cases c43 : t321 = true
   ·subst c43
    have H1 : (laws_FnExactWorstGloves.j0 k a1 t304 t319 (t319 != t304) l0_0 l0_1 t298 t301 t306 t309 t313 t316) = some r := by rw [if_pos rfl] at H; exact H
    clear H
    have H := H1
    clear H1
    have H' := Aside0.mk H
    clear H
    have hnb44 := NB320_290.1
    have hnc44 := NB290_320.1
    have hnb45 := NB320_305.1
    have hnc45 := NB305_320.1
    have hnb46 := NB320_312.1
    have hnc46 := NB312_320.1
    have hcz47_0 : w35.cell? ⟨gb320, 0, none⟩ = some (.slice none 0 0) := (blk_cell BK320.1 0).trans rfl
    have hcz47_1 : w35.cell? ⟨gb320, 1, none⟩ = some (.slice none 0 0) := (blk_cell BK320.1 1).trans rfl
    have hfz47_0 := blk_frozen BK320.1 0
    have hfz47_1 := blk_frozen BK320.1 1
    have hnb48 := NB305_290.1
    have hnc48 := NB290_305.1
    have hnb49 := NB305_312.1
    have hnc49 := NB312_305.1
    have hcz50_0 : w35.cell? ⟨gb305, 0, none⟩ = some (.slice Ao22 t298.length co22) := (blk_cell BK305.1 0).trans rfl
    have hcz50_1 : w35.cell? ⟨gb305, 1, none⟩ = some (.slice Ao25 t301.length co25) := (blk_cell BK305.1 1).trans rfl
    have hfz50_0 := blk_frozen BK305.1 0
    have hfz50_1 := blk_frozen BK305.1 1
    go_wp2_with (first | ((with_reducible refine gate_callee (f := 19) rfl ?_); refine goesL_ (some 38) rfl rfl Try.func19 (by kernel_rfl) rfl #[.agg #[.slice Ao36 t313.length co36, .slice Ao41 t316.length co41], .agg #[.slice Ao22 t298.length co22, .slice Ao25 t301.length co25]] rfl (by (try simp only [List.map_toArray, List.map_cons, List.map_nil]); first | done | rfl | (simp only [List.length_drop, List.length_take]; rfl)) ?_; (with_reducible refine (laws_eqGloves.calls k _ _ t313 _ _ t316 _ _ t298 _ _ t301 true _ ?side1 ?side2 ?side3 ?side4 ?side5 ?side6 ?side7 ?side8 A42.1).mono ?_); (case side1 => refine (Kd.R_reads' (e := 3) (base := w.heap.size) (ok := fun k_ => ((((((some k_ ≠ (.slice Ao41 t316.length co41 : Value).ownBlock ∧ some k_ ≠ (.slice Ao18 t292.length co18 : Value).ownBlock) ∧ some k_ ≠ (.slice Ao19 t295.length co19 : Value).ownBlock) ∧ some k_ ≠ (.slice Ao22 t298.length co22 : Value).ownBlock) ∧ some k_ ≠ (.slice Ao25 t301.length co25 : Value).ownBlock) ∧ some k_ ≠ (.slice Ao29 t306.length co29 : Value).ownBlock) ∧ some k_ ≠ (.slice Ao33 t309.length co33 : Value).ownBlock)) (n := t313.length) (c := co36) ?_).2.2; exact (by (with_reducible repeat (first | apply Kd.R_alloc | apply Kd.R_drewN | apply Kd.R_drew)); exact (Kd.R_mono (Kd.R_far (p := ⟨gb320, 1, none⟩) (Kd.R_far (p := ⟨gb320, 0, none⟩) (Kd.R_types HO315.1 BK320.1 (by decide)) (fun _ hk => hk.2) (.slice Ao36 t313.length co36)) (fun _ hk => hk.2) (.slice Ao41 t316.length co41)) (fun _ h_ => h_.1)))); (case side2 => exact (Kd.R_reads' HO315.1).2.1); (case side3 => refine (Kd.R_reads' (e := 3) (base := w.heap.size) (ok := fun k_ => ((((((some k_ ≠ (.slice Ao36 t313.length co36 : Value).ownBlock ∧ some k_ ≠ (.slice Ao18 t292.length co18 : Value).ownBlock) ∧ some k_ ≠ (.slice Ao19 t295.length co19 : Value).ownBlock) ∧ some k_ ≠ (.slice Ao22 t298.length co22 : Value).ownBlock) ∧ some k_ ≠ (.slice Ao25 t301.length co25 : Value).ownBlock) ∧ some k_ ≠ (.slice Ao29 t306.length co29 : Value).ownBlock) ∧ some k_ ≠ (.slice Ao33 t309.length co33 : Value).ownBlock)) (n := t316.length) (c := co41) ?_).2.2; exact (by (with_reducible repeat (first | apply Kd.R_alloc | apply Kd.R_drewN | apply Kd.R_drew)); exact (Kd.R_mono (Kd.R_far (p := ⟨gb320, 1, none⟩) (Kd.R_far (p := ⟨gb320, 0, none⟩) (Kd.R_types HO318.1 BK320.1 (by decide)) (fun _ hk => hk.2) (.slice Ao36 t313.length co36)) (fun _ hk => hk.2) (.slice Ao41 t316.length co41)) (fun _ h_ => h_.1)))); (case side4 => exact (Kd.R_reads' HO318.1).2.1); (case side5 => refine (Kd.R_reads' (e := 3) (base := w.heap.size) (ok := fun k_ => ((((((some k_ ≠ (.slice Ao25 t301.length co25 : Value).ownBlock ∧ some k_ ≠ (.slice Ao18 t292.length co18 : Value).ownBlock) ∧ some k_ ≠ (.slice Ao19 t295.length co19 : Value).ownBlock) ∧ some k_ ≠ (.slice Ao29 t306.length co29 : Value).ownBlock) ∧ some k_ ≠ (.slice Ao33 t309.length co33 : Value).ownBlock) ∧ some k_ ≠ (.slice Ao36 t313.length co36 : Value).ownBlock) ∧ some k_ ≠ (.slice Ao41 t316.length co41 : Value).ownBlock)) (n := t298.length) (c := co22) ?_).2.2; exact (by (with_reducible repeat (first | apply Kd.R_alloc | apply Kd.R_drewN | apply Kd.R_drew)); exact (Kd.R_mono (Kd.R_far (p := ⟨gb320, 1, none⟩) (Kd.R_far (p := ⟨gb320, 0, none⟩) (Kd.R_types HO300.1 BK320.1 (by decide)) (fun _ hk => hk.2) (.slice Ao36 t313.length co36)) (fun _ hk => hk.2) (.slice Ao41 t316.length co41)) (fun _ h_ => h_.1)))); (case side6 => exact (Kd.R_reads' HO300.1).2.1); (case side7 => refine (Kd.R_reads' (e := 3) (base := w.heap.size) (ok := fun k_ => ((((((some k_ ≠ (.slice Ao22 t298.length co22 : Value).ownBlock ∧ some k_ ≠ (.slice Ao18 t292.length co18 : Value).ownBlock) ∧ some k_ ≠ (.slice Ao19 t295.length co19 : Value).ownBlock) ∧ some k_ ≠ (.slice Ao29 t306.length co29 : Value).ownBlock) ∧ some k_ ≠ (.slice Ao33 t309.length co33 : Value).ownBlock) ∧ some k_ ≠ (.slice Ao36 t313.length co36 : Value).ownBlock) ∧ some k_ ≠ (.slice Ao41 t316.length co41 : Value).ownBlock)) (n := t301.length) (c := co25) ?_).2.2; exact (by (with_reducible repeat (first | apply Kd.R_alloc | apply Kd.R_drewN | apply Kd.R_drew)); exact (Kd.R_mono (Kd.R_far (p := ⟨gb320, 1, none⟩) (Kd.R_far (p := ⟨gb320, 0, none⟩) (Kd.R_types HO303.1 BK320.1 (by decide)) (fun _ hk => hk.2) (.slice Ao36 t313.length co36)) (fun _ hk => hk.2) (.slice Ao41 t316.length co41)) (fun _ h_ => h_.1)))); (case side8 => exact (Kd.R_reads' HO303.1).2.1); rintro e w51 ⟨rfl, hb⟩; refine ⟨_, rfl, ?_⟩; have n0_ := Aside0.mk (Kd.R_below (by (with_reducible repeat (first | apply Kd.R_alloc | apply Kd.R_drewN | apply Kd.R_drew)); exact (Kd.R_mono (Kd.R_far (p := ⟨gb320, 1, none⟩) (Kd.R_far (p := ⟨gb320, 0, none⟩) (Kd.R_types HO294.1 BK320.1 (by decide)) (fun _ hk => hk.2) (.slice Ao36 t313.length co36)) (fun _ hk => hk.2) (.slice Ao41 t316.length co41)) (fun _ h_ => h_.1))) hb); have n1_ := Aside0.mk (Kd.R_below (by (with_reducible repeat (first | apply Kd.R_alloc | apply Kd.R_drewN | apply Kd.R_drew)); exact (Kd.R_mono (Kd.R_far (p := ⟨gb320, 1, none⟩) (Kd.R_far (p := ⟨gb320, 0, none⟩) (Kd.R_types HO297.1 BK320.1 (by decide)) (fun _ hk => hk.2) (.slice Ao36 t313.length co36)) (fun _ hk => hk.2) (.slice Ao41 t316.length co41)) (fun _ h_ => h_.1))) hb); have n2_ := Aside0.mk (Kd.R_below (by (with_reducible repeat (first | apply Kd.R_alloc | apply Kd.R_drewN | apply Kd.R_drew)); exact (Kd.R_mono (Kd.R_far (p := ⟨gb320, 1, none⟩) (Kd.R_far (p := ⟨gb320, 0, none⟩) (Kd.R_types HO300.1 BK320.1 (by decide)) (fun _ hk => hk.2) (.slice Ao36 t313.length co36)) (fun _ hk => hk.2) (.slice Ao41 t316.length co41)) (fun _ h_ => h_.1))) hb); have n3_ := Aside0.mk (Kd.R_below (by (with_reducible repeat (first | apply Kd.R_alloc | apply Kd.R_drewN | apply Kd.R_drew)); exact (Kd.R_mono (Kd.R_far (p := ⟨gb320, 1, none⟩) (Kd.R_far (p := ⟨gb320, 0, none⟩) (Kd.R_types HO303.1 BK320.1 (by decide)) (fun _ hk => hk.2) (.slice Ao36 t313.length co36)) (fun _ hk => hk.2) (.slice Ao41 t316.length co41)) (fun _ h_ => h_.1))) hb); have n4_ := Aside0.mk (Kd.R_below (by (with_reducible repeat (first | apply Kd.R_alloc | apply Kd.R_drewN | apply Kd.R_drew)); exact (Kd.R_mono (Kd.R_far (p := ⟨gb320, 1, none⟩) (Kd.R_far (p := ⟨gb320, 0, none⟩) (Kd.R_types HO308.1 BK320.1 (by decide)) (fun _ hk => hk.2) (.slice Ao36 t313.length co36)) (fun _ hk => hk.2) (.slice Ao41 t316.length co41)) (fun _ h_ => h_.1))) hb); have n5_ := Aside0.mk (Kd.R_below (by (with_reducible repeat (first | apply Kd.R_alloc | apply Kd.R_drewN | apply Kd.R_drew)); exact (Kd.R_mono (Kd.R_far (p := ⟨gb320, 1, none⟩) (Kd.R_far (p := ⟨gb320, 0, none⟩) (Kd.R_types HO311.1 BK320.1 (by decide)) (fun _ hk => hk.2) (.slice Ao36 t313.length co36)) (fun _ hk => hk.2) (.slice Ao41 t316.length co41)) (fun _ h_ => h_.1))) hb); have n6_ := Aside0.mk (Kd.R_below (by (with_reducible repeat (first | apply Kd.R_alloc | apply Kd.R_drewN | apply Kd.R_drew)); exact (Kd.R_mono (Kd.R_far (p := ⟨gb320, 1, none⟩) (Kd.R_far (p := ⟨gb320, 0, none⟩) (Kd.R_types HO315.1 BK320.1 (by decide)) (fun _ hk => hk.2) (.slice Ao36 t313.length co36)) (fun _ hk => hk.2) (.slice Ao41 t316.length co41)) (fun _ h_ => h_.1))) hb); have n7_ := Aside0.mk (Kd.R_below (by (with_reducible repeat (first | apply Kd.R_alloc | apply Kd.R_drewN | apply Kd.R_drew)); exact (Kd.R_mono (Kd.R_far (p := ⟨gb320, 1, none⟩) (Kd.R_far (p := ⟨gb320, 0, none⟩) (Kd.R_types HO318.1 BK320.1 (by decide)) (fun _ hk => hk.2) (.slice Ao36 t313.length co36)) (fun _ hk => hk.2) (.slice Ao41 t316.length co41)) (fun _ h_ => h_.1))) hb); have n8_ := Aside0.mk (blk_below (g := gb290) (o := .cells #[.slice A0_0 l0_0.length c0_0, .slice A0_1 l0_1.length c0_1] 24 (0, 0)) (by (with_reducible repeat (first | refine blk_drewN ?_ _ | refine blk_drew ?_ | refine blk_alloc ?_ _)); refine blk_far ?_ NB290_320.1 _; (with_reducible repeat (first | refine blk_drewN ?_ _ | refine blk_drew ?_ | refine blk_alloc ?_ _)); refine blk_far ?_ NB290_320.1 _; (with_reducible repeat (first | refine blk_drewN ?_ _ | refine blk_drew ?_ | refine blk_alloc ?_ _)); exact BK290.1) hb); have n9_ := Aside0.mk (blk_below (g := gb305) (o := .cells #[.slice Ao22 t298.length co22, .slice Ao25 t301.length co25] 28 (0, 0)) (by (with_reducible repeat (first | refine blk_drewN ?_ _ | refine blk_drew ?_ | refine blk_alloc ?_ _)); refine blk_far ?_ NB305_320.1 _; (with_reducible repeat (first | refine blk_drewN ?_ _ | refine blk_drew ?_ | refine blk_alloc ?_ _)); refine blk_far ?_ NB305_320.1 _; (with_reducible repeat (first | refine blk_drewN ?_ _ | refine blk_drew ?_ | refine blk_alloc ?_ _)); exact BK305.1) hb); have n10_ := Aside0.mk (blk_below (g := gb312) (o := .cells #[.slice Ao29 t306.length co29, .slice Ao33 t309.length co33] 28 (0, 0)) (by (with_reducible repeat (first | refine blk_drewN ?_ _ | refine blk_drew ?_ | refine blk_alloc ?_ _)); refine blk_far ?_ NB312_320.1 _; (with_reducible repeat (first | refine blk_drewN ?_ _ | refine blk_drew ?_ | refine blk_alloc ?_ _)); refine blk_far ?_ NB312_320.1 _; (with_reducible repeat (first | refine blk_drewN ?_ _ | refine blk_drew ?_ | refine blk_alloc ?_ _)); exact BK312.1) hb); have n11_ := Aside0.mk (blk_below (g := gb320) (o := .cells #[.slice Ao36 t313.length co36, .slice Ao41 t316.length co41] 28 (0, 0)) (by (with_reducible repeat (first | refine blk_drewN ?_ _ | refine blk_drew ?_ | refine blk_alloc ?_ _)); refine blk_put (cs := #[.slice Ao36 t313.length co36, .slice none 0 0]) ?_ 1 _ rfl; (with_reducible repeat (first | refine blk_drewN ?_ _ | refine blk_drew ?_ | refine blk_alloc ?_ _)); refine blk_put (cs := #[.slice none 0 0, .slice none 0 0]) ?_ 0 _ rfl; (with_reducible repeat (first | refine blk_drewN ?_ _ | refine blk_drew ?_ | refine blk_alloc ?_ _)); exact BK320.1) hb); have n12_ := Aside0.mk (below_step (by repeat (first | (with_reducible first | exact HB.1 | apply below_alloc | apply pw_below_drewN | apply below_drew1 | refine below_set ?_ GE290.1 | refine below_set ?_ GE305.1 | refine below_set ?_ GE312.1 | refine below_set ?_ GE320.1) | exact HB.1)) hb); clear HO294; clear HO297; clear HO300; clear HO303; clear HO308; clear HO311; clear HO315; clear HO318; clear BK290; clear BK305; clear BK312; clear BK320; clear HB; have HO294 := n0_; have HO297 := n1_; have HO300 := n2_; have HO303 := n3_; have HO308 := n4_; have HO311 := n5_; have HO315 := n6_; have HO318 := n7_; have BK290 := n8_; have BK305 := n9_; have BK312 := n10_; have BK320 := n11_; have HB := n12_; clear n0_ n1_ n2_ n3_ n4_ n5_ n6_ n7_ n8_ n9_ n10_ n11_ n12_; (try clear hb); (try clear hb2); (try clear hk); (try clear hi)))
    go_meet
    case rel => exact ⟨_, ((t319 != t304)), (by first | rfl | (simp; done) | (simp [*]; done) | (simp [Go.IntWalk.i64_left]; done)), H', ⟨by first | omega | exact Nat.le_refl _⟩, ⟨by (with_reducible repeat (first | apply Kd.R_alloc | apply Kd.R_drewN | apply Kd.R_drew)); exact Kd.R_mono HO300.1 (fun _ hk => ⟨hk.1.1.1.1.1.1, ⟨hk.1.1.1.2, ⟨hk.1.1.2, ⟨hk.1.2, hk.2⟩⟩⟩⟩)⟩, ⟨by (with_reducible repeat (first | apply Kd.R_alloc | apply Kd.R_drewN | apply Kd.R_drew)); exact Kd.R_mono HO303.1 (fun _ hk => ⟨hk.1.1.1.1.1.1, ⟨hk.1.1.1.2, ⟨hk.1.1.2, ⟨hk.1.2, hk.2⟩⟩⟩⟩)⟩, ⟨by (with_reducible repeat (first | apply Kd.R_alloc | apply Kd.R_drewN | apply Kd.R_drew)); exact Kd.R_mono HO308.1 (fun _ hk => ⟨hk.1.1.1.2, ⟨hk.1.1.2, ⟨hk.1.1.1.1.1.1, ⟨hk.1.2, hk.2⟩⟩⟩⟩)⟩, ⟨by (with_reducible repeat (first | apply Kd.R_alloc | apply Kd.R_drewN | apply Kd.R_drew)); exact Kd.R_mono HO311.1 (fun _ hk => ⟨hk.1.1.1.2, ⟨hk.1.1.2, ⟨hk.1.1.1.1.1.1, ⟨hk.1.2, hk.2⟩⟩⟩⟩)⟩, ⟨by (with_reducible repeat (first | apply Kd.R_alloc | apply Kd.R_drewN | apply Kd.R_drew)); exact Kd.R_mono HO315.1 (fun _ hk => ⟨hk.1.1.1.2, ⟨hk.1.1.2, ⟨hk.1.2, ⟨hk.2, hk.1.1.1.1.1.1⟩⟩⟩⟩)⟩, ⟨by (with_reducible repeat (first | apply Kd.R_alloc | apply Kd.R_drewN | apply Kd.R_drew)); exact Kd.R_mono HO318.1 (fun _ hk => ⟨hk.1.1.1.2, ⟨hk.1.1.2, ⟨hk.1.2, ⟨hk.2, hk.1.1.1.1.1.1⟩⟩⟩⟩)⟩, ⟨by (with_reducible repeat (first | refine blk_drewN ?_ _ | refine blk_drew ?_ | refine blk_alloc ?_ _)); exact BK290.1⟩, ⟨by (with_reducible repeat (first | refine blk_drewN ?_ _ | refine blk_drew ?_ | refine blk_alloc ?_ _)); exact BK305.1⟩, ⟨by (with_reducible repeat (first | refine blk_drewN ?_ _ | refine blk_drew ?_ | refine blk_alloc ?_ _)); exact BK312.1⟩, ⟨by (with_reducible repeat (first | refine blk_drewN ?_ _ | refine blk_drew ?_ | refine blk_alloc ?_ _)); exact BK320.1⟩, ⟨by repeat (first | (with_reducible first | exact HB.1 | apply below_alloc | apply pw_below_drewN | apply below_drew1 | refine below_set ?_ GE290.1 | refine below_set ?_ GE305.1 | refine below_set ?_ GE312.1 | refine below_set ?_ GE320.1) | exact HB.1)⟩⟩
   ·replace c43 := Bool.eq_false_iff.mpr c43
    subst c43
    have H1 : (laws_FnExactWorstGloves.j0 k a1 t304 t319 true l0_0 l0_1 t298 t301 t306 t309 t313 t316) = some r := by rw [if_neg (show ¬ (false = true) by decide)] at H; exact H
    clear H
    have H := H1
    clear H1
    have H' := Aside0.mk H
    clear H
    have hnb52 := NB320_290.1
    have hnc52 := NB290_320.1
    have hnb53 := NB320_305.1
    have hnc53 := NB305_320.1
    have hnb54 := NB320_312.1
    have hnc54 := NB312_320.1
    have hcz55_0 : w35.cell? ⟨gb320, 0, none⟩ = some (.slice none 0 0) := (blk_cell BK320.1 0).trans rfl
    have hcz55_1 : w35.cell? ⟨gb320, 1, none⟩ = some (.slice none 0 0) := (blk_cell BK320.1 1).trans rfl
    have hfz55_0 := blk_frozen BK320.1 0
    have hfz55_1 := blk_frozen BK320.1 1
    have hnb56 := NB305_290.1
    have hnc56 := NB290_305.1
    have hnb57 := NB305_312.1
    have hnc57 := NB312_305.1
    have hcz58_0 : w35.cell? ⟨gb305, 0, none⟩ = some (.slice Ao22 t298.length co22) := (blk_cell BK305.1 0).trans rfl
    have hcz58_1 : w35.cell? ⟨gb305, 1, none⟩ = some (.slice Ao25 t301.length co25) := (blk_cell BK305.1 1).trans rfl
    have hfz58_0 := blk_frozen BK305.1 0
    have hfz58_1 := blk_frozen BK305.1 1
    go_wp2_with (first | ((with_reducible refine gate_callee (f := 19) rfl ?_); refine goesL_ (some 38) rfl rfl Try.func19 (by kernel_rfl) rfl #[.agg #[.slice Ao36 t313.length co36, .slice Ao41 t316.length co41], .agg #[.slice Ao22 t298.length co22, .slice Ao25 t301.length co25]] rfl (by (try simp only [List.map_toArray, List.map_cons, List.map_nil]); first | done | rfl | (simp only [List.length_drop, List.length_take]; rfl)) ?_; (with_reducible refine (laws_eqGloves.calls k _ _ t313 _ _ t316 _ _ t298 _ _ t301 false _ ?side1 ?side2 ?side3 ?side4 ?side5 ?side6 ?side7 ?side8 A42.1).mono ?_); (case side1 => refine (Kd.R_reads' (e := 3) (base := w.heap.size) (ok := fun k_ => ((((((some k_ ≠ (.slice Ao41 t316.length co41 : Value).ownBlock ∧ some k_ ≠ (.slice Ao18 t292.length co18 : Value).ownBlock) ∧ some k_ ≠ (.slice Ao19 t295.length co19 : Value).ownBlock) ∧ some k_ ≠ (.slice Ao22 t298.length co22 : Value).ownBlock) ∧ some k_ ≠ (.slice Ao25 t301.length co25 : Value).ownBlock) ∧ some k_ ≠ (.slice Ao29 t306.length co29 : Value).ownBlock) ∧ some k_ ≠ (.slice Ao33 t309.length co33 : Value).ownBlock)) (n := t313.length) (c := co36) ?_).2.2; exact (by (with_reducible repeat (first | apply Kd.R_alloc | apply Kd.R_drewN | apply Kd.R_drew)); exact (Kd.R_mono (Kd.R_far (p := ⟨gb320, 1, none⟩) (Kd.R_far (p := ⟨gb320, 0, none⟩) (Kd.R_types HO315.1 BK320.1 (by decide)) (fun _ hk => hk.2) (.slice Ao36 t313.length co36)) (fun _ hk => hk.2) (.slice Ao41 t316.length co41)) (fun _ h_ => h_.1)))); (case side2 => exact (Kd.R_reads' HO315.1).2.1); (case side3 => refine (Kd.R_reads' (e := 3) (base := w.heap.size) (ok := fun k_ => ((((((some k_ ≠ (.slice Ao36 t313.length co36 : Value).ownBlock ∧ some k_ ≠ (.slice Ao18 t292.length co18 : Value).ownBlock) ∧ some k_ ≠ (.slice Ao19 t295.length co19 : Value).ownBlock) ∧ some k_ ≠ (.slice Ao22 t298.length co22 : Value).ownBlock) ∧ some k_ ≠ (.slice Ao25 t301.length co25 : Value).ownBlock) ∧ some k_ ≠ (.slice Ao29 t306.length co29 : Value).ownBlock) ∧ some k_ ≠ (.slice Ao33 t309.length co33 : Value).ownBlock)) (n := t316.length) (c := co41) ?_).2.2; exact (by (with_reducible repeat (first | apply Kd.R_alloc | apply Kd.R_drewN | apply Kd.R_drew)); exact (Kd.R_mono (Kd.R_far (p := ⟨gb320, 1, none⟩) (Kd.R_far (p := ⟨gb320, 0, none⟩) (Kd.R_types HO318.1 BK320.1 (by decide)) (fun _ hk => hk.2) (.slice Ao36 t313.length co36)) (fun _ hk => hk.2) (.slice Ao41 t316.length co41)) (fun _ h_ => h_.1)))); (case side4 => exact (Kd.R_reads' HO318.1).2.1); (case side5 => refine (Kd.R_reads' (e := 3) (base := w.heap.size) (ok := fun k_ => ((((((some k_ ≠ (.slice Ao25 t301.length co25 : Value).ownBlock ∧ some k_ ≠ (.slice Ao18 t292.length co18 : Value).ownBlock) ∧ some k_ ≠ (.slice Ao19 t295.length co19 : Value).ownBlock) ∧ some k_ ≠ (.slice Ao29 t306.length co29 : Value).ownBlock) ∧ some k_ ≠ (.slice Ao33 t309.length co33 : Value).ownBlock) ∧ some k_ ≠ (.slice Ao36 t313.length co36 : Value).ownBlock) ∧ some k_ ≠ (.slice Ao41 t316.length co41 : Value).ownBlock)) (n := t298.length) (c := co22) ?_).2.2; exact (by (with_reducible repeat (first | apply Kd.R_alloc | apply Kd.R_drewN | apply Kd.R_drew)); exact (Kd.R_mono (Kd.R_far (p := ⟨gb320, 1, none⟩) (Kd.R_far (p := ⟨gb320, 0, none⟩) (Kd.R_types HO300.1 BK320.1 (by decide)) (fun _ hk => hk.2) (.slice Ao36 t313.length co36)) (fun _ hk => hk.2) (.slice Ao41 t316.length co41)) (fun _ h_ => h_.1)))); (case side6 => exact (Kd.R_reads' HO300.1).2.1); (case side7 => refine (Kd.R_reads' (e := 3) (base := w.heap.size) (ok := fun k_ => ((((((some k_ ≠ (.slice Ao22 t298.length co22 : Value).ownBlock ∧ some k_ ≠ (.slice Ao18 t292.length co18 : Value).ownBlock) ∧ some k_ ≠ (.slice Ao19 t295.length co19 : Value).ownBlock) ∧ some k_ ≠ (.slice Ao29 t306.length co29 : Value).ownBlock) ∧ some k_ ≠ (.slice Ao33 t309.length co33 : Value).ownBlock) ∧ some k_ ≠ (.slice Ao36 t313.length co36 : Value).ownBlock) ∧ some k_ ≠ (.slice Ao41 t316.length co41 : Value).ownBlock)) (n := t301.length) (c := co25) ?_).2.2; exact (by (with_reducible repeat (first | apply Kd.R_alloc | apply Kd.R_drewN | apply Kd.R_drew)); exact (Kd.R_mono (Kd.R_far (p := ⟨gb320, 1, none⟩) (Kd.R_far (p := ⟨gb320, 0, none⟩) (Kd.R_types HO303.1 BK320.1 (by decide)) (fun _ hk => hk.2) (.slice Ao36 t313.length co36)) (fun _ hk => hk.2) (.slice Ao41 t316.length co41)) (fun _ h_ => h_.1)))); (case side8 => exact (Kd.R_reads' HO303.1).2.1); rintro e w59 ⟨rfl, hb⟩; refine ⟨_, rfl, ?_⟩; have n0_ := Aside0.mk (Kd.R_below (by (with_reducible repeat (first | apply Kd.R_alloc | apply Kd.R_drewN | apply Kd.R_drew)); exact (Kd.R_mono (Kd.R_far (p := ⟨gb320, 1, none⟩) (Kd.R_far (p := ⟨gb320, 0, none⟩) (Kd.R_types HO294.1 BK320.1 (by decide)) (fun _ hk => hk.2) (.slice Ao36 t313.length co36)) (fun _ hk => hk.2) (.slice Ao41 t316.length co41)) (fun _ h_ => h_.1))) hb); have n1_ := Aside0.mk (Kd.R_below (by (with_reducible repeat (first | apply Kd.R_alloc | apply Kd.R_drewN | apply Kd.R_drew)); exact (Kd.R_mono (Kd.R_far (p := ⟨gb320, 1, none⟩) (Kd.R_far (p := ⟨gb320, 0, none⟩) (Kd.R_types HO297.1 BK320.1 (by decide)) (fun _ hk => hk.2) (.slice Ao36 t313.length co36)) (fun _ hk => hk.2) (.slice Ao41 t316.length co41)) (fun _ h_ => h_.1))) hb); have n2_ := Aside0.mk (Kd.R_below (by (with_reducible repeat (first | apply Kd.R_alloc | apply Kd.R_drewN | apply Kd.R_drew)); exact (Kd.R_mono (Kd.R_far (p := ⟨gb320, 1, none⟩) (Kd.R_far (p := ⟨gb320, 0, none⟩) (Kd.R_types HO300.1 BK320.1 (by decide)) (fun _ hk => hk.2) (.slice Ao36 t313.length co36)) (fun _ hk => hk.2) (.slice Ao41 t316.length co41)) (fun _ h_ => h_.1))) hb); have n3_ := Aside0.mk (Kd.R_below (by (with_reducible repeat (first | apply Kd.R_alloc | apply Kd.R_drewN | apply Kd.R_drew)); exact (Kd.R_mono (Kd.R_far (p := ⟨gb320, 1, none⟩) (Kd.R_far (p := ⟨gb320, 0, none⟩) (Kd.R_types HO303.1 BK320.1 (by decide)) (fun _ hk => hk.2) (.slice Ao36 t313.length co36)) (fun _ hk => hk.2) (.slice Ao41 t316.length co41)) (fun _ h_ => h_.1))) hb); have n4_ := Aside0.mk (Kd.R_below (by (with_reducible repeat (first | apply Kd.R_alloc | apply Kd.R_drewN | apply Kd.R_drew)); exact (Kd.R_mono (Kd.R_far (p := ⟨gb320, 1, none⟩) (Kd.R_far (p := ⟨gb320, 0, none⟩) (Kd.R_types HO308.1 BK320.1 (by decide)) (fun _ hk => hk.2) (.slice Ao36 t313.length co36)) (fun _ hk => hk.2) (.slice Ao41 t316.length co41)) (fun _ h_ => h_.1))) hb); have n5_ := Aside0.mk (Kd.R_below (by (with_reducible repeat (first | apply Kd.R_alloc | apply Kd.R_drewN | apply Kd.R_drew)); exact (Kd.R_mono (Kd.R_far (p := ⟨gb320, 1, none⟩) (Kd.R_far (p := ⟨gb320, 0, none⟩) (Kd.R_types HO311.1 BK320.1 (by decide)) (fun _ hk => hk.2) (.slice Ao36 t313.length co36)) (fun _ hk => hk.2) (.slice Ao41 t316.length co41)) (fun _ h_ => h_.1))) hb); have n6_ := Aside0.mk (Kd.R_below (by (with_reducible repeat (first | apply Kd.R_alloc | apply Kd.R_drewN | apply Kd.R_drew)); exact (Kd.R_mono (Kd.R_far (p := ⟨gb320, 1, none⟩) (Kd.R_far (p := ⟨gb320, 0, none⟩) (Kd.R_types HO315.1 BK320.1 (by decide)) (fun _ hk => hk.2) (.slice Ao36 t313.length co36)) (fun _ hk => hk.2) (.slice Ao41 t316.length co41)) (fun _ h_ => h_.1))) hb); have n7_ := Aside0.mk (Kd.R_below (by (with_reducible repeat (first | apply Kd.R_alloc | apply Kd.R_drewN | apply Kd.R_drew)); exact (Kd.R_mono (Kd.R_far (p := ⟨gb320, 1, none⟩) (Kd.R_far (p := ⟨gb320, 0, none⟩) (Kd.R_types HO318.1 BK320.1 (by decide)) (fun _ hk => hk.2) (.slice Ao36 t313.length co36)) (fun _ hk => hk.2) (.slice Ao41 t316.length co41)) (fun _ h_ => h_.1))) hb); have n8_ := Aside0.mk (blk_below (g := gb290) (o := .cells #[.slice A0_0 l0_0.length c0_0, .slice A0_1 l0_1.length c0_1] 24 (0, 0)) (by (with_reducible repeat (first | refine blk_drewN ?_ _ | refine blk_drew ?_ | refine blk_alloc ?_ _)); refine blk_far ?_ NB290_320.1 _; (with_reducible repeat (first | refine blk_drewN ?_ _ | refine blk_drew ?_ | refine blk_alloc ?_ _)); refine blk_far ?_ NB290_320.1 _; (with_reducible repeat (first | refine blk_drewN ?_ _ | refine blk_drew ?_ | refine blk_alloc ?_ _)); exact BK290.1) hb); have n9_ := Aside0.mk (blk_below (g := gb305) (o := .cells #[.slice Ao22 t298.length co22, .slice Ao25 t301.length co25] 28 (0, 0)) (by (with_reducible repeat (first | refine blk_drewN ?_ _ | refine blk_drew ?_ | refine blk_alloc ?_ _)); refine blk_far ?_ NB305_320.1 _; (with_reducible repeat (first | refine blk_drewN ?_ _ | refine blk_drew ?_ | refine blk_alloc ?_ _)); refine blk_far ?_ NB305_320.1 _; (with_reducible repeat (first | refine blk_drewN ?_ _ | refine blk_drew ?_ | refine blk_alloc ?_ _)); exact BK305.1) hb); have n10_ := Aside0.mk (blk_below (g := gb312) (o := .cells #[.slice Ao29 t306.length co29, .slice Ao33 t309.length co33] 28 (0, 0)) (by (with_reducible repeat (first | refine blk_drewN ?_ _ | refine blk_drew ?_ | refine blk_alloc ?_ _)); refine blk_far ?_ NB312_320.1 _; (with_reducible repeat (first | refine blk_drewN ?_ _ | refine blk_drew ?_ | refine blk_alloc ?_ _)); refine blk_far ?_ NB312_320.1 _; (with_reducible repeat (first | refine blk_drewN ?_ _ | refine blk_drew ?_ | refine blk_alloc ?_ _)); exact BK312.1) hb); have n11_ := Aside0.mk (blk_below (g := gb320) (o := .cells #[.slice Ao36 t313.length co36, .slice Ao41 t316.length co41] 28 (0, 0)) (by (with_reducible repeat (first | refine blk_drewN ?_ _ | refine blk_drew ?_ | refine blk_alloc ?_ _)); refine blk_put (cs := #[.slice Ao36 t313.length co36, .slice none 0 0]) ?_ 1 _ rfl; (with_reducible repeat (first | refine blk_drewN ?_ _ | refine blk_drew ?_ | refine blk_alloc ?_ _)); refine blk_put (cs := #[.slice none 0 0, .slice none 0 0]) ?_ 0 _ rfl; (with_reducible repeat (first | refine blk_drewN ?_ _ | refine blk_drew ?_ | refine blk_alloc ?_ _)); exact BK320.1) hb); have n12_ := Aside0.mk (below_step (by repeat (first | (with_reducible first | exact HB.1 | apply below_alloc | apply pw_below_drewN | apply below_drew1 | refine below_set ?_ GE290.1 | refine below_set ?_ GE305.1 | refine below_set ?_ GE312.1 | refine below_set ?_ GE320.1) | exact HB.1)) hb); clear HO294; clear HO297; clear HO300; clear HO303; clear HO308; clear HO311; clear HO315; clear HO318; clear BK290; clear BK305; clear BK312; clear BK320; clear HB; have HO294 := n0_; have HO297 := n1_; have HO300 := n2_; have HO303 := n3_; have HO308 := n4_; have HO311 := n5_; have HO315 := n6_; have HO318 := n7_; have BK290 := n8_; have BK305 := n9_; have BK312 := n10_; have BK320 := n11_; have HB := n12_; clear n0_ n1_ n2_ n3_ n4_ n5_ n6_ n7_ n8_ n9_ n10_ n11_ n12_; (try clear hb); (try clear hb2); (try clear hk); (try clear hi)))
    go_meet
    case rel => exact ⟨_, (true), (by first | rfl | (simp; done) | (simp [*]; done) | (simp [Go.IntWalk.i64_left]; done)), H', ⟨by first | omega | exact Nat.le_refl _⟩, ⟨by (with_reducible repeat (first | apply Kd.R_alloc | apply Kd.R_drewN | apply Kd.R_drew)); exact Kd.R_mono HO300.1 (fun _ hk => ⟨hk.1.1.1.1.1.1, ⟨hk.1.1.1.2, ⟨hk.1.1.2, ⟨hk.1.2, hk.2⟩⟩⟩⟩)⟩, ⟨by (with_reducible repeat (first | apply Kd.R_alloc | apply Kd.R_drewN | apply Kd.R_drew)); exact Kd.R_mono HO303.1 (fun _ hk => ⟨hk.1.1.1.1.1.1, ⟨hk.1.1.1.2, ⟨hk.1.1.2, ⟨hk.1.2, hk.2⟩⟩⟩⟩)⟩, ⟨by (with_reducible repeat (first | apply Kd.R_alloc | apply Kd.R_drewN | apply Kd.R_drew)); exact Kd.R_mono HO308.1 (fun _ hk => ⟨hk.1.1.1.2, ⟨hk.1.1.2, ⟨hk.1.1.1.1.1.1, ⟨hk.1.2, hk.2⟩⟩⟩⟩)⟩, ⟨by (with_reducible repeat (first | apply Kd.R_alloc | apply Kd.R_drewN | apply Kd.R_drew)); exact Kd.R_mono HO311.1 (fun _ hk => ⟨hk.1.1.1.2, ⟨hk.1.1.2, ⟨hk.1.1.1.1.1.1, ⟨hk.1.2, hk.2⟩⟩⟩⟩)⟩, ⟨by (with_reducible repeat (first | apply Kd.R_alloc | apply Kd.R_drewN | apply Kd.R_drew)); exact Kd.R_mono HO315.1 (fun _ hk => ⟨hk.1.1.1.2, ⟨hk.1.1.2, ⟨hk.1.2, ⟨hk.2, hk.1.1.1.1.1.1⟩⟩⟩⟩)⟩, ⟨by (with_reducible repeat (first | apply Kd.R_alloc | apply Kd.R_drewN | apply Kd.R_drew)); exact Kd.R_mono HO318.1 (fun _ hk => ⟨hk.1.1.1.2, ⟨hk.1.1.2, ⟨hk.1.2, ⟨hk.2, hk.1.1.1.1.1.1⟩⟩⟩⟩)⟩, ⟨by (with_reducible repeat (first | refine blk_drewN ?_ _ | refine blk_drew ?_ | refine blk_alloc ?_ _)); exact BK290.1⟩, ⟨by (with_reducible repeat (first | refine blk_drewN ?_ _ | refine blk_drew ?_ | refine blk_alloc ?_ _)); exact BK305.1⟩, ⟨by (with_reducible repeat (first | refine blk_drewN ?_ _ | refine blk_drew ?_ | refine blk_alloc ?_ _)); exact BK312.1⟩, ⟨by (with_reducible repeat (first | refine blk_drewN ?_ _ | refine blk_drew ?_ | refine blk_alloc ?_ _)); exact BK320.1⟩, ⟨by repeat (first | (with_reducible first | exact HB.1 | apply below_alloc | apply pw_below_drewN | apply below_drew1 | refine below_set ?_ GE290.1 | refine below_set ?_ GE305.1 | refine below_set ?_ GE312.1 | refine below_set ?_ GE320.1) | exact HB.1)⟩⟩
  case rest =>
   clear HC12
   try clear c1
   try clear c2
   try clear p2
   try clear c3
   try clear c4
   try clear c4b0
   try clear c5
   try clear c14
   try clear c15
   try clear c17
   try clear c19
   try clear c23
   try clear c30
   try clear c31
   try clear c37
   try clear c38
   try clear c39
   try clear c42
   try clear c43
   try clear c44
   try clear c45
   try clear c46
   try clear c48
   try clear c49
   try clear c52
   try clear c53
   try clear c54
   try clear c56
   try clear c57
   try clear hcz14_0
   try clear hcz14_1
   try clear hcz16_0
   try clear hcz16_1
   try clear hcz24_0
   try clear hcz24_1
   try clear hcz26_0
   try clear hcz26_1
   try clear hcz32_0
   try clear hcz32_1
   try clear hcz40_0
   try clear hcz40_1
   try clear hcz47_0
   try clear hcz47_1
   try clear hcz50_0
   try clear hcz50_1
   try clear hcz55_0
   try clear hcz55_1
   try clear hcz58_0
   try clear hcz58_1
   try clear hcz6_0
   try clear hcz6_1
   try clear hfz14_0
   try clear hfz14_1
   try clear hfz16_0
   try clear hfz16_1
   try clear hfz24_0
   try clear hfz24_1
   try clear hfz26_0
   try clear hfz26_1
   try clear hfz32_0
   try clear hfz32_1
   try clear hfz40_0
   try clear hfz40_1
   try clear hfz47_0
   try clear hfz47_1
   try clear hfz50_0
   try clear hfz50_1
   try clear hfz55_0
   try clear hfz55_1
   try clear hfz58_0
   try clear hfz58_1
   try clear hfz6_0
   try clear hfz6_1
   obtain ⟨kq, x44_11, rfl, HA, HJ11, Q306_0, Q306_1, Q313_0, Q313_1, Q321_0, Q321_1, BK290, BK305, BK312, BK320, HB⟩ := hcut
   cases kq with
   | zero => exact absurd HA.1 (by simp [laws_FnExactWorstGloves.j0])
   | succ kj11 =>
    have H := HA.1
    clear HA
    simp only [laws_FnExactWorstGloves.j0] at H
    by_cases c60 : x44_11 = true
    ·subst c60
     have H1 : (some false) = some r := by rw [if_pos rfl] at H; exact H
     clear H
     have H := H1
     clear H1
     obtain rfl := Option.some.inj H
     go_wp2
     go_ret
     exact ⟨by first | rfl | (simp [errW_none, errW_some] <;> rfl) | (simp [Go.IntWalk.i64_left]; done) | (simp [*, errW_none, errW_some] <;> rfl), by repeat (first | (with_reducible first | exact HB.1 | apply below_alloc | apply pw_below_drewN | apply below_drew1 | refine below_set ?_ GE290.1 | refine below_set ?_ GE305.1 | refine below_set ?_ GE312.1 | refine below_set ?_ GE320.1) | exact HB.1)⟩
    ·replace c60 := Bool.eq_false_iff.mpr c60
     subst c60
     have H1 : ((laws_toGloves.f kj11 l0_0 l0_1).bind fun bt322 => ((laws_eqGloves.f kj11 t306 t309 bt322.1 bt322.2).bind fun t328 => (if t328 = true then ((laws_markGloves.f kj11 t306 t309 1).bind fun bt329 => (if bt329.1 < 0 then (laws_FnExactWorstGloves.j1 kj11 a1 t304 true l0_0 l0_1 t298 t301 t313 t316) else ((laws_eqGloves.f kj11 t313 t316 t298 t301).bind fun t332 => (if t332 = true then (laws_FnExactWorstGloves.j1 kj11 a1 t304 (t319 != t304) l0_0 l0_1 t298 t301 t313 t316) else (laws_FnExactWorstGloves.j1 kj11 a1 t304 true l0_0 l0_1 t298 t301 t313 t316))))) else (some false)))) = some r := by rw [if_neg (show ¬ (false = true) by decide)] at H; exact H
     clear H
     have H := H1
     clear H1
     replace H := Option.bind_eq_some_iff.mp H
     obtain ⟨⟨t322, t325⟩, A610, H⟩ := H
     replace H : ((laws_eqGloves.f kj11 t306 t309 t322 t325).bind fun t328 => (if t328 = true then ((laws_markGloves.f kj11 t306 t309 1).bind fun bt329 => (if bt329.1 < 0 then (laws_FnExactWorstGloves.j1 kj11 a1 t304 true l0_0 l0_1 t298 t301 t313 t316) else ((laws_eqGloves.f kj11 t313 t316 t298 t301).bind fun t332 => (if t332 = true then (laws_FnExactWorstGloves.j1 kj11 a1 t304 (t319 != t304) l0_0 l0_1 t298 t301 t313 t316) else (laws_FnExactWorstGloves.j1 kj11 a1 t304 true l0_0 l0_1 t298 t301 t313 t316))))) else (some false))) = some r := H
     have A61 := Aside0.mk A610
     clear A610
     replace H := Option.bind_eq_some_iff.mp H
     obtain ⟨t328, A620, H⟩ := H
     replace H : (if t328 = true then ((laws_markGloves.f kj11 t306 t309 1).bind fun bt329 => (if bt329.1 < 0 then (laws_FnExactWorstGloves.j1 kj11 a1 t304 true l0_0 l0_1 t298 t301 t313 t316) else ((laws_eqGloves.f kj11 t313 t316 t298 t301).bind fun t332 => (if t332 = true then (laws_FnExactWorstGloves.j1 kj11 a1 t304 (t319 != t304) l0_0 l0_1 t298 t301 t313 t316) else (laws_FnExactWorstGloves.j1 kj11 a1 t304 true l0_0 l0_1 t298 t301 t313 t316))))) else (some false)) = some r := H
     have A62 := Aside0.mk A620
     clear A620
     by_cases c63 : t328 = true
     ·subst c63
      have H1 : ((laws_markGloves.f kj11 t306 t309 1).bind fun bt329 => (if bt329.1 < 0 then (laws_FnExactWorstGloves.j1 kj11 a1 t304 true l0_0 l0_1 t298 t301 t313 t316) else ((laws_eqGloves.f kj11 t313 t316 t298 t301).bind fun t332 => (if t332 = true then (laws_FnExactWorstGloves.j1 kj11 a1 t304 (t319 != t304) l0_0 l0_1 t298 t301 t313 t316) else (laws_FnExactWorstGloves.j1 kj11 a1 t304 true l0_0 l0_1 t298 t301 t313 t316))))) = some r := by rw [if_pos rfl] at H; exact H
      clear H
      have H := H1
      clear H1
      replace H := Option.bind_eq_some_iff.mp H
      obtain ⟨⟨t329, t330, t331⟩, A640, H⟩ := H
      replace H : (if t329 < 0 then (laws_FnExactWorstGloves.j1 kj11 a1 t304 true l0_0 l0_1 t298 t301 t313 t316) else ((laws_eqGloves.f kj11 t313 t316 t298 t301).bind fun t332 => (if t332 = true then (laws_FnExactWorstGloves.j1 kj11 a1 t304 (t319 != t304) l0_0 l0_1 t298 t301 t313 t316) else (laws_FnExactWorstGloves.j1 kj11 a1 t304 true l0_0 l0_1 t298 t301 t313 t316)))) = some r := H
      have A64 := Aside0.mk A640
      clear A640
      have HC65 := Aside0.mk H
      clear H
      try go_wp2
      have n0_ := Aside0.mk (Kd.R_drew Q306_0.1)
      have n1_ := Aside0.mk (Kd.R_drew Q306_1.1)
      have n2_ := Aside0.mk (Kd.R_drew Q313_0.1)
      have n3_ := Aside0.mk (Kd.R_drew Q313_1.1)
      have n4_ := Aside0.mk (Kd.R_drew Q321_0.1)
      have n5_ := Aside0.mk (Kd.R_drew Q321_1.1)
      have n6_ := Aside0.mk (blk_drew BK290.1)
      have n7_ := Aside0.mk (blk_drew BK305.1)
      have n8_ := Aside0.mk (blk_drew BK312.1)
      have n9_ := Aside0.mk (blk_drew BK320.1)
      have n10_ := Aside0.mk (below_drew1 HB.1)
      clear Q306_0
      clear Q306_1
      clear Q313_0
      clear Q313_1
      clear Q321_0
      clear Q321_1
      clear BK290
      clear BK305
      clear BK312
      clear BK320
      clear HB
      have Q306_0 := n0_
      have Q306_1 := n1_
      have Q313_0 := n2_
      have Q313_1 := n3_
      have Q321_0 := n4_
      have Q321_1 := n5_
      have BK290 := n6_
      have BK305 := n7_
      have BK312 := n8_
      have BK320 := n9_
      have HB := n10_
      clear n0_ n1_ n2_ n3_ n4_ n5_ n6_ n7_ n8_ n9_ n10_
      refine start_ (n := 5) (S := fun w' => w'.cell? ⟨gb312, 0, none⟩ = some (.slice Ao29 t306.length co29) ∧ w'.cell? ⟨gb312, 1, none⟩ = some (.slice Ao33 t309.length co33) ∧ w'.cell? ⟨gb290, 0, none⟩ = some (.slice A0_0 l0_0.length c0_0) ∧ w'.cell? ⟨gb290, 1, none⟩ = some (.slice A0_1 l0_1.length c0_1)) (ds := []) #[false, false, false, false, false] (by kernel_rfl) rfl rfl ⟨(blk_cell BK312.1 0).trans rfl, (blk_cell BK312.1 1).trans rfl, (blk_cell BK290.1 0).trans rfl, (blk_cell BK290.1 1).trans rfl⟩ (fun hHeld => ?_)
      generalize wc.drew = w66 at Q306_0 Q306_1 Q313_0 Q313_1 Q321_0 Q321_1 BK290 BK305 BK312 BK320 HB hHeld ⊢
      refine take_ (i := 0) (N := some 45) (v := ?_) (a' := ?_) #[true, false, false, false, false] rfl rfl (by kernel_rfl) (fun _ _ _ h => h) (Or.inl ⟨by rfl, ?_⟩) hHeld ?_ ?_
      rotate_left
      ·rintro w' ⟨s0, s1, s2, s3⟩
       go_simp
       with_reducible rfl
      rotate_left
      ·simp only [Act.put, List.setIfInBounds_toArray, List.set_cons_zero, List.set_cons_succ, i64_w, i32_w]
       rfl
      refine take_ (i := 1) (N := some 46) (v := ?_) (a' := ?_) #[true, true, false, false, false] rfl rfl (by kernel_rfl) (fun _ _ _ h => h) (Or.inl ⟨by rfl, ?_⟩) hHeld ?_ ?_
      rotate_left
      ·rintro w' ⟨s0, s1, s2, s3⟩
       go_simp
       with_reducible rfl
      rotate_left
      ·simp only [Act.put, List.setIfInBounds_toArray, List.set_cons_zero, List.set_cons_succ, i64_w, i32_w]
       rfl
      refine one_ (i := 2) (N := some 47) #[true, true, true, false, false] rfl rfl (by kernel_rfl) (by decide) (fun K hK => ?_)
      refine goes_ Try.func17 (by kernel_rfl) rfl #[.agg #[.slice A0_0 l0_0.length c0_0, .slice A0_1 l0_1.length c0_1]] (by rfl) rfl rfl (by (try simp only [List.map_toArray, List.map_cons, List.map_nil]); first | done | rfl | (simp only [List.length_drop, List.length_take]; rfl)) ?_
      with_reducible refine (laws_toGloves.calls kj11 _ _ l0_0 _ _ l0_1 t322 t325 _ ?side1 ?side2 ?side3 ?side4 A61.1).mono ?_
      (case side1 => repeat (first | exact (Kd.C_below HR0_0.1 HB.1) | (with_reducible refine Kd.C_alloc ?_ _) | (with_reducible refine Kd.C_drewN ?_ _) | (with_reducible refine Kd.C_drew ?_)))
      (case side2 => exact HC0_0.1)
      (case side3 => repeat (first | exact (Kd.C_below HR0_1.1 HB.1) | (with_reducible refine Kd.C_alloc ?_ _) | (with_reducible refine Kd.C_drewN ?_ _) | (with_reducible refine Kd.C_drew ?_)))
      (case side4 => exact HC0_1.1)
      rintro e w67 ⟨v323, v326, rfl, ho0, ho1, hb⟩
      refine ⟨_, rfl, ?_⟩
      have n0_ := Aside0.mk (Kd.R_mono (Kd.R_told (Kd.R_told (Kd.R_old (by (with_reducible repeat (first | apply Kd.R_alloc | apply Kd.R_drewN | apply Kd.R_drew)); exact Q306_0.1) hb) (Kd.R_base ho0)) (Kd.R_base ho1)) (fun _ h_ => h_.1))
      have n1_ := Aside0.mk (Kd.R_mono (Kd.R_told (Kd.R_told (Kd.R_old (by (with_reducible repeat (first | apply Kd.R_alloc | apply Kd.R_drewN | apply Kd.R_drew)); exact Q306_1.1) hb) (Kd.R_base ho0)) (Kd.R_base ho1)) (fun _ h_ => h_.1))
      have n2_ := Aside0.mk (Kd.R_mono (Kd.R_told (Kd.R_told (Kd.R_old (by (with_reducible repeat (first | apply Kd.R_alloc | apply Kd.R_drewN | apply Kd.R_drew)); exact Q313_0.1) hb) (Kd.R_base ho0)) (Kd.R_base ho1)) (fun _ h_ => h_.1))
      have n3_ := Aside0.mk (Kd.R_mono (Kd.R_told (Kd.R_told (Kd.R_old (by (with_reducible repeat (first | apply Kd.R_alloc | apply Kd.R_drewN | apply Kd.R_drew)); exact Q313_1.1) hb) (Kd.R_base ho0)) (Kd.R_base ho1)) (fun _ h_ => h_.1))
      have n4_ := Aside0.mk (Kd.R_mono (Kd.R_told (Kd.R_told (Kd.R_old (by (with_reducible repeat (first | apply Kd.R_alloc | apply Kd.R_drewN | apply Kd.R_drew)); exact Q321_0.1) hb) (Kd.R_base ho0)) (Kd.R_base ho1)) (fun _ h_ => h_.1))
      have n5_ := Aside0.mk (Kd.R_mono (Kd.R_told (Kd.R_told (Kd.R_old (by (with_reducible repeat (first | apply Kd.R_alloc | apply Kd.R_drewN | apply Kd.R_drew)); exact Q321_1.1) hb) (Kd.R_base ho0)) (Kd.R_base ho1)) (fun _ h_ => h_.1))
      have n6_ := Aside0.mk (Kd.R_lower (Kd.R_new' (Kd.R_new' (Kd.R_new' (Kd.R_new' (Kd.R_new' (Kd.R_new' ho0 (Kd.R_lt (by (with_reducible repeat (first | apply Kd.R_alloc | apply Kd.R_drewN | apply Kd.R_drew)); exact Q306_0.1))) (Kd.R_lt (by (with_reducible repeat (first | apply Kd.R_alloc | apply Kd.R_drewN | apply Kd.R_drew)); exact Q306_1.1))) (Kd.R_lt (by (with_reducible repeat (first | apply Kd.R_alloc | apply Kd.R_drewN | apply Kd.R_drew)); exact Q313_0.1))) (Kd.R_lt (by (with_reducible repeat (first | apply Kd.R_alloc | apply Kd.R_drewN | apply Kd.R_drew)); exact Q313_1.1))) (Kd.R_lt (by (with_reducible repeat (first | apply Kd.R_alloc | apply Kd.R_drewN | apply Kd.R_drew)); exact Q321_0.1))) (Kd.R_lt (by (with_reducible repeat (first | apply Kd.R_alloc | apply Kd.R_drewN | apply Kd.R_drew)); exact Q321_1.1))) (below_size (by repeat (first | (with_reducible first | exact HB.1 | apply below_alloc | apply pw_below_drewN | apply below_drew1 | refine below_set ?_ GE290.1 | refine below_set ?_ GE305.1 | refine below_set ?_ GE312.1 | refine below_set ?_ GE320.1) | exact HB.1))))
      have n7_ := Aside0.mk (Kd.R_lower (Kd.R_new' (Kd.R_new' (Kd.R_new' (Kd.R_new' (Kd.R_new' (Kd.R_new' ho1 (Kd.R_lt (by (with_reducible repeat (first | apply Kd.R_alloc | apply Kd.R_drewN | apply Kd.R_drew)); exact Q306_0.1))) (Kd.R_lt (by (with_reducible repeat (first | apply Kd.R_alloc | apply Kd.R_drewN | apply Kd.R_drew)); exact Q306_1.1))) (Kd.R_lt (by (with_reducible repeat (first | apply Kd.R_alloc | apply Kd.R_drewN | apply Kd.R_drew)); exact Q313_0.1))) (Kd.R_lt (by (with_reducible repeat (first | apply Kd.R_alloc | apply Kd.R_drewN | apply Kd.R_drew)); exact Q313_1.1))) (Kd.R_lt (by (with_reducible repeat (first | apply Kd.R_alloc | apply Kd.R_drewN | apply Kd.R_drew)); exact Q321_0.1))) (Kd.R_lt (by (with_reducible repeat (first | apply Kd.R_alloc | apply Kd.R_drewN | apply Kd.R_drew)); exact Q321_1.1))) (below_size (by repeat (first | (with_reducible first | exact HB.1 | apply below_alloc | apply pw_below_drewN | apply below_drew1 | refine below_set ?_ GE290.1 | refine below_set ?_ GE305.1 | refine below_set ?_ GE312.1 | refine below_set ?_ GE320.1) | exact HB.1))))
      have n8_ := Aside0.mk (blk_below (g := gb290) (o := .cells #[.slice A0_0 l0_0.length c0_0, .slice A0_1 l0_1.length c0_1] 24 (0, 0)) (by (with_reducible repeat (first | refine blk_drewN ?_ _ | refine blk_drew ?_ | refine blk_alloc ?_ _)); exact BK290.1) hb)
      have n9_ := Aside0.mk (blk_below (g := gb305) (o := .cells #[.slice Ao22 t298.length co22, .slice Ao25 t301.length co25] 28 (0, 0)) (by (with_reducible repeat (first | refine blk_drewN ?_ _ | refine blk_drew ?_ | refine blk_alloc ?_ _)); exact BK305.1) hb)
      have n10_ := Aside0.mk (blk_below (g := gb312) (o := .cells #[.slice Ao29 t306.length co29, .slice Ao33 t309.length co33] 28 (0, 0)) (by (with_reducible repeat (first | refine blk_drewN ?_ _ | refine blk_drew ?_ | refine blk_alloc ?_ _)); exact BK312.1) hb)
      have n11_ := Aside0.mk (blk_below (g := gb320) (o := .cells #[.slice Ao36 t313.length co36, .slice Ao41 t316.length co41] 28 (0, 0)) (by (with_reducible repeat (first | refine blk_drewN ?_ _ | refine blk_drew ?_ | refine blk_alloc ?_ _)); exact BK320.1) hb)
      have n12_ := Aside0.mk (below_step (by repeat (first | (with_reducible first | exact HB.1 | apply below_alloc | apply pw_below_drewN | apply below_drew1 | refine below_set ?_ GE290.1 | refine below_set ?_ GE305.1 | refine below_set ?_ GE312.1 | refine below_set ?_ GE320.1) | exact HB.1)) hb)
      clear Q306_0
      clear Q306_1
      clear Q313_0
      clear Q313_1
      clear Q321_0
      clear Q321_1
      clear BK290
      clear BK305
      clear BK312
      clear BK320
      clear HB
      have Q306_0 := n0_
      have Q306_1 := n1_
      have Q313_0 := n2_
      have Q313_1 := n3_
      have Q321_0 := n4_
      have Q321_1 := n5_
      have HO324 := n6_
      have HO327 := n7_
      have BK290 := n8_
      have BK305 := n9_
      have BK312 := n10_
      have BK320 := n11_
      have HB := n12_
      clear n0_ n1_ n2_ n3_ n4_ n5_ n6_ n7_ n8_ n9_ n10_ n11_ n12_
      (try clear hb)
      (try clear hb2)
      (try clear hk)
      (try clear hi)
      (try clear ho0)
      (try clear ho1)
      obtain ⟨Ao68, co68, eo68⟩ := Kd.R_slice HO324.1
      (first | subst eo68 | (injection eo68 with f1_ f2_ f3_; have f4_ := f1_.symm; have f5_ := f3_.symm; clear f1_ f2_ f3_; subst f4_; subst f5_))
      obtain ⟨Ao69, co69, eo69⟩ := Kd.R_slice HO327.1
      (first | subst eo69 | (injection eo69 with f1_ f2_ f3_; have f4_ := f1_.symm; have f5_ := f3_.symm; clear f1_ f2_ f3_; subst f4_; subst f5_))
      refine hK.out _ _ ⟨(blk_cell BK312.1 0).trans rfl, (blk_cell BK312.1 1).trans rfl, (blk_cell BK290.1 0).trans rfl, (blk_cell BK290.1 1).trans rfl⟩ (fun hHeld => ?_)
      clear hK K
      refine norm_ (a' := ?_) ?_ ?_
      rotate_left
      ·show Act.put _ (some 47) _ = _
       simp only [Act.put, List.setIfInBounds_toArray, List.set_cons_zero, List.set_cons_succ, i64_w, i32_w]
       rfl
      refine one_ (i := 3) (N := some 48) #[true, true, true, true, false] rfl rfl (by kernel_rfl) (by decide) (fun K hK => ?_)
      refine goes_ Try.func19 (by kernel_rfl) rfl #[.agg #[.slice Ao29 t306.length co29, .slice Ao33 t309.length co33], .agg #[.slice Ao68 t322.length co68, .slice Ao69 t325.length co69]] (by rfl) rfl rfl (by (try simp only [List.map_toArray, List.map_cons, List.map_nil]); first | done | rfl | (simp only [List.length_drop, List.length_take]; rfl)) ?_
      with_reducible refine (laws_eqGloves.calls kj11 _ _ t306 _ _ t309 _ _ t322 _ _ t325 true _ ?side1 ?side2 ?side3 ?side4 ?side5 ?side6 ?side7 ?side8 A62.1).mono ?_
      (case side1 => repeat (first | exact (Kd.R_reads' Q313_0.1).2.2 | (with_reducible refine Kd.C_alloc ?_ _) | (with_reducible refine Kd.C_drewN ?_ _) | (with_reducible refine Kd.C_drew ?_)))
      (case side2 => exact (Kd.R_reads' Q313_0.1).2.1)
      (case side3 => repeat (first | exact (Kd.R_reads' Q313_1.1).2.2 | (with_reducible refine Kd.C_alloc ?_ _) | (with_reducible refine Kd.C_drewN ?_ _) | (with_reducible refine Kd.C_drew ?_)))
      (case side4 => exact (Kd.R_reads' Q313_1.1).2.1)
      (case side5 => repeat (first | exact (Kd.R_reads' HO324.1).2.2 | (with_reducible refine Kd.C_alloc ?_ _) | (with_reducible refine Kd.C_drewN ?_ _) | (with_reducible refine Kd.C_drew ?_)))
      (case side6 => exact (Kd.R_reads' HO324.1).2.1)
      (case side7 => repeat (first | exact (Kd.R_reads' HO327.1).2.2 | (with_reducible refine Kd.C_alloc ?_ _) | (with_reducible refine Kd.C_drewN ?_ _) | (with_reducible refine Kd.C_drew ?_)))
      (case side8 => exact (Kd.R_reads' HO327.1).2.1)
      rintro e w70 ⟨rfl, hb⟩
      refine ⟨_, rfl, ?_⟩
      have n0_ := Aside0.mk (Kd.R_below (by (with_reducible repeat (first | apply Kd.R_alloc | apply Kd.R_drewN | apply Kd.R_drew)); exact Q306_0.1) hb)
      have n1_ := Aside0.mk (Kd.R_below (by (with_reducible repeat (first | apply Kd.R_alloc | apply Kd.R_drewN | apply Kd.R_drew)); exact Q306_1.1) hb)
      have n2_ := Aside0.mk (Kd.R_below (by (with_reducible repeat (first | apply Kd.R_alloc | apply Kd.R_drewN | apply Kd.R_drew)); exact Q313_0.1) hb)
      have n3_ := Aside0.mk (Kd.R_below (by (with_reducible repeat (first | apply Kd.R_alloc | apply Kd.R_drewN | apply Kd.R_drew)); exact Q313_1.1) hb)
      have n4_ := Aside0.mk (Kd.R_below (by (with_reducible repeat (first | apply Kd.R_alloc | apply Kd.R_drewN | apply Kd.R_drew)); exact Q321_0.1) hb)
      have n5_ := Aside0.mk (Kd.R_below (by (with_reducible repeat (first | apply Kd.R_alloc | apply Kd.R_drewN | apply Kd.R_drew)); exact Q321_1.1) hb)
      have n6_ := Aside0.mk (Kd.R_below (by (with_reducible repeat (first | apply Kd.R_alloc | apply Kd.R_drewN | apply Kd.R_drew)); exact HO324.1) hb)
      have n7_ := Aside0.mk (Kd.R_below (by (with_reducible repeat (first | apply Kd.R_alloc | apply Kd.R_drewN | apply Kd.R_drew)); exact HO327.1) hb)
      have n8_ := Aside0.mk (blk_below (g := gb290) (o := .cells #[.slice A0_0 l0_0.length c0_0, .slice A0_1 l0_1.length c0_1] 24 (0, 0)) (by (with_reducible repeat (first | refine blk_drewN ?_ _ | refine blk_drew ?_ | refine blk_alloc ?_ _)); exact BK290.1) hb)
      have n9_ := Aside0.mk (blk_below (g := gb305) (o := .cells #[.slice Ao22 t298.length co22, .slice Ao25 t301.length co25] 28 (0, 0)) (by (with_reducible repeat (first | refine blk_drewN ?_ _ | refine blk_drew ?_ | refine blk_alloc ?_ _)); exact BK305.1) hb)
      have n10_ := Aside0.mk (blk_below (g := gb312) (o := .cells #[.slice Ao29 t306.length co29, .slice Ao33 t309.length co33] 28 (0, 0)) (by (with_reducible repeat (first | refine blk_drewN ?_ _ | refine blk_drew ?_ | refine blk_alloc ?_ _)); exact BK312.1) hb)
      have n11_ := Aside0.mk (blk_below (g := gb320) (o := .cells #[.slice Ao36 t313.length co36, .slice Ao41 t316.length co41] 28 (0, 0)) (by (with_reducible repeat (first | refine blk_drewN ?_ _ | refine blk_drew ?_ | refine blk_alloc ?_ _)); exact BK320.1) hb)
      have n12_ := Aside0.mk (below_step (by repeat (first | (with_reducible first | exact HB.1 | apply below_alloc | apply pw_below_drewN | apply below_drew1 | refine below_set ?_ GE290.1 | refine below_set ?_ GE305.1 | refine below_set ?_ GE312.1 | refine below_set ?_ GE320.1) | exact HB.1)) hb)
      clear Q306_0
      clear Q306_1
      clear Q313_0
      clear Q313_1
      clear Q321_0
      clear Q321_1
      clear HO324
      clear HO327
      clear BK290
      clear BK305
      clear BK312
      clear BK320
      clear HB
      have Q306_0 := n0_
      have Q306_1 := n1_
      have Q313_0 := n2_
      have Q313_1 := n3_
      have Q321_0 := n4_
      have Q321_1 := n5_
      have HO324 := n6_
      have HO327 := n7_
      have BK290 := n8_
      have BK305 := n9_
      have BK312 := n10_
      have BK320 := n11_
      have HB := n12_
      clear n0_ n1_ n2_ n3_ n4_ n5_ n6_ n7_ n8_ n9_ n10_ n11_ n12_
      (try clear hb)
      (try clear hb2)
      (try clear hk)
      (try clear hi)
      refine hK.out _ _ ⟨(blk_cell BK312.1 0).trans rfl, (blk_cell BK312.1 1).trans rfl, (blk_cell BK290.1 0).trans rfl, (blk_cell BK290.1 1).trans rfl⟩ (fun hHeld => ?_)
      clear hK K
      refine norm_ (a' := ?_) ?_ ?_
      rotate_left
      ·show Act.put _ (some 48) _ = _
       simp only [Act.put, List.setIfInBounds_toArray, List.set_cons_zero, List.set_cons_succ, i64_w, i32_w]
       rfl
      refine pure_ (i := 4) (N := some 49) (v := ?_) (a' := ?_) #[true, true, true, true, true] rfl rfl (by kernel_rfl) (fun _ _ _ h => h) (Or.inl ⟨by rfl, ?_⟩) ?_ ?_
      rotate_left
      ·intro w'
       go_simp
       with_reducible rfl
      rotate_left
      ·simp only [Act.put, List.setIfInBounds_toArray, List.set_cons_zero, List.set_cons_succ, i64_w, i32_w]
       rfl
      refine done_ (by kernel_rfl) ?_
      have hnb71 := NB312_290.1
      have hnc71 := NB290_312.1
      have hnb72 := NB312_305.1
      have hnc72 := NB305_312.1
      have hnb73 := NB312_320.1
      have hnc73 := NB320_312.1
      have hcz74_0 : w70.cell? ⟨gb312, 0, none⟩ = some (.slice Ao29 t306.length co29) := (blk_cell BK312.1 0).trans rfl
      have hcz74_1 : w70.cell? ⟨gb312, 1, none⟩ = some (.slice Ao33 t309.length co33) := (blk_cell BK312.1 1).trans rfl
      have hfz74_0 := blk_frozen BK312.1 0
      have hfz74_1 := blk_frozen BK312.1 1
      go_upto_region 14 with (first | ((with_reducible refine gate_callee (f := 28) rfl ?_); refine goesL_ (some 52) rfl rfl Try.func28 (by kernel_rfl) rfl #[.agg #[.slice Ao29 t306.length co29, .slice Ao33 t309.length co33], .int .i64 1] rfl (by (try simp only [List.map_toArray, List.map_cons, List.map_nil]); first | done | rfl | (simp only [List.length_drop, List.length_take]; rfl)) ?_; (with_reducible refine (laws_markGloves.calls kj11 (fun k_ => some k_ = (.slice Ao29 t306.length co29 : Value).ownBlock) (.slice Ao29 t306.length co29) t306 (fun k_ => some k_ = (.slice Ao33 t309.length co33 : Value).ownBlock) (.slice Ao33 t309.length co33) t309 1 t329 t330 t331 w _ ?side1 ?side2 ?side3 ?side4 ?side5 A64.1).mono ?_); (case side1 => repeat (first | (with_reducible first | exact HB.1 | apply below_alloc | apply pw_below_drewN | apply below_drew1 | refine below_set ?_ GE290.1 | refine below_set ?_ GE305.1 | refine below_set ?_ GE312.1 | refine below_set ?_ GE320.1) | exact HB.1)); (case side2 => exact Kd.R_tight rfl Q313_0.1); (case side3 => exact fun k_ e_ => (Q313_0.1.1 k_ e_.symm).1.1.2.2.1); (case side4 => exact Kd.R_tight rfl Q313_1.1); (case side5 => exact fun k_ e_ => (Q313_1.1.1 k_ e_.symm).1.1.2.2.1); rintro e w75 ⟨rfl, hy0, hy1, hb, hkp⟩; refine ⟨_, rfl, ?_⟩; have n0_ := Aside0.mk (Kd.R_mono (ok' := fun k_ => some k_ ≠ (.slice Ao25 t301.length co25 : Value).ownBlock ∧ some k_ ≠ (.slice Ao29 t306.length co29 : Value).ownBlock ∧ some k_ ≠ (.slice Ao33 t309.length co33 : Value).ownBlock ∧ some k_ ≠ (.slice Ao36 t313.length co36 : Value).ownBlock ∧ some k_ ≠ (.slice Ao41 t316.length co41 : Value).ownBlock ∧ some k_ ≠ (.slice Ao68 t322.length co68 : Value).ownBlock ∧ some k_ ≠ (.slice Ao69 t325.length co69 : Value).ownBlock) (Kd.R_keptB (Q306_0.1) hkp (fun k_ hk_ hs_ => Or.elim hs_ (fun e_ => (hk_.1.1.2.1) e_) (fun e_ => (hk_.1.1.2.2.1) e_))) (fun k_ hk_ => ⟨hk_.1.1.1.1, hk_.1.1.1.2.1, hk_.1.1.1.2.2.1, hk_.1.1.1.2.2.2.1, hk_.1.1.1.2.2.2.2, hk_.1.1.2, hk_.1.2⟩)); have n1_ := Aside0.mk (Kd.R_mono (ok' := fun k_ => some k_ ≠ (.slice Ao22 t298.length co22 : Value).ownBlock ∧ some k_ ≠ (.slice Ao29 t306.length co29 : Value).ownBlock ∧ some k_ ≠ (.slice Ao33 t309.length co33 : Value).ownBlock ∧ some k_ ≠ (.slice Ao36 t313.length co36 : Value).ownBlock ∧ some k_ ≠ (.slice Ao41 t316.length co41 : Value).ownBlock ∧ some k_ ≠ (.slice Ao68 t322.length co68 : Value).ownBlock ∧ some k_ ≠ (.slice Ao69 t325.length co69 : Value).ownBlock) (Kd.R_keptB (Q306_1.1) hkp (fun k_ hk_ hs_ => Or.elim hs_ (fun e_ => (hk_.1.1.2.1) e_) (fun e_ => (hk_.1.1.2.2.1) e_))) (fun k_ hk_ => ⟨hk_.1.1.1.1, hk_.1.1.1.2.1, hk_.1.1.1.2.2.1, hk_.1.1.1.2.2.2.1, hk_.1.1.1.2.2.2.2, hk_.1.1.2, hk_.1.2⟩)); have n2_ := Aside0.mk (Kd.R_reok rfl hy0 (fun k_ e_ => Q313_0.1.1 k_ e_)); have n3_ := Aside0.mk (Kd.R_reok rfl hy1 (fun k_ e_ => Q313_1.1.1 k_ e_)); have n4_ := Aside0.mk (Kd.R_mono (ok' := fun k_ => some k_ ≠ (.slice Ao22 t298.length co22 : Value).ownBlock ∧ some k_ ≠ (.slice Ao25 t301.length co25 : Value).ownBlock ∧ some k_ ≠ (.slice Ao29 t306.length co29 : Value).ownBlock ∧ some k_ ≠ (.slice Ao33 t309.length co33 : Value).ownBlock ∧ some k_ ≠ (.slice Ao41 t316.length co41 : Value).ownBlock ∧ some k_ ≠ (.slice Ao68 t322.length co68 : Value).ownBlock ∧ some k_ ≠ (.slice Ao69 t325.length co69 : Value).ownBlock) (Kd.R_keptB (Q321_0.1) hkp (fun k_ hk_ hs_ => Or.elim hs_ (fun e_ => (hk_.1.1.2.2.1) e_) (fun e_ => (hk_.1.1.2.2.2.1) e_))) (fun k_ hk_ => ⟨hk_.1.1.1.1, hk_.1.1.1.2.1, hk_.1.1.1.2.2.1, hk_.1.1.1.2.2.2.1, hk_.1.1.1.2.2.2.2, hk_.1.1.2, hk_.1.2⟩)); have n5_ := Aside0.mk (Kd.R_mono (ok' := fun k_ => some k_ ≠ (.slice Ao22 t298.length co22 : Value).ownBlock ∧ some k_ ≠ (.slice Ao25 t301.length co25 : Value).ownBlock ∧ some k_ ≠ (.slice Ao29 t306.length co29 : Value).ownBlock ∧ some k_ ≠ (.slice Ao33 t309.length co33 : Value).ownBlock ∧ some k_ ≠ (.slice Ao36 t313.length co36 : Value).ownBlock ∧ some k_ ≠ (.slice Ao68 t322.length co68 : Value).ownBlock ∧ some k_ ≠ (.slice Ao69 t325.length co69 : Value).ownBlock) (Kd.R_keptB (Q321_1.1) hkp (fun k_ hk_ hs_ => Or.elim hs_ (fun e_ => (hk_.1.1.2.2.1) e_) (fun e_ => (hk_.1.1.2.2.2.1) e_))) (fun k_ hk_ => ⟨hk_.1.1.1.1, hk_.1.1.1.2.1, hk_.1.1.1.2.2.1, hk_.1.1.1.2.2.2.1, hk_.1.1.1.2.2.2.2, hk_.1.1.2, hk_.1.2⟩)); have n6_ := Aside0.mk (blk_kept (by (with_reducible repeat (first | refine blk_drewN ?_ _ | refine blk_drew ?_ | refine blk_alloc ?_ _)); exact BK290.1) hkp (fun hs_ => Or.elim hs_ (fun e_ => (fun e_ => (Kd.R_ne Q313_0.1 BK290.1 (by decide)) e_) e_) (fun e_ => (fun e_ => (Kd.R_ne Q313_1.1 BK290.1 (by decide)) e_) e_))); have n7_ := Aside0.mk (blk_kept (by (with_reducible repeat (first | refine blk_drewN ?_ _ | refine blk_drew ?_ | refine blk_alloc ?_ _)); exact BK305.1) hkp (fun hs_ => Or.elim hs_ (fun e_ => (fun e_ => (Kd.R_ne Q313_0.1 BK305.1 (by decide)) e_) e_) (fun e_ => (fun e_ => (Kd.R_ne Q313_1.1 BK305.1 (by decide)) e_) e_))); have n8_ := Aside0.mk (blk_kept (by (with_reducible repeat (first | refine blk_drewN ?_ _ | refine blk_drew ?_ | refine blk_alloc ?_ _)); exact BK312.1) hkp (fun hs_ => Or.elim hs_ (fun e_ => (fun e_ => (Kd.R_ne Q313_0.1 BK312.1 (by decide)) e_) e_) (fun e_ => (fun e_ => (Kd.R_ne Q313_1.1 BK312.1 (by decide)) e_) e_))); have n9_ := Aside0.mk (blk_kept (by (with_reducible repeat (first | refine blk_drewN ?_ _ | refine blk_drew ?_ | refine blk_alloc ?_ _)); exact BK320.1) hkp (fun hs_ => Or.elim hs_ (fun e_ => (fun e_ => (Kd.R_ne Q313_0.1 BK320.1 (by decide)) e_) e_) (fun e_ => (fun e_ => (Kd.R_ne Q313_1.1 BK320.1 (by decide)) e_) e_))); have n10_ := Aside0.mk (Kd.R_mono (ok' := fun k_ => some k_ ≠ (.slice Ao22 t298.length co22 : Value).ownBlock ∧ some k_ ≠ (.slice Ao25 t301.length co25 : Value).ownBlock ∧ some k_ ≠ (.slice Ao29 t306.length co29 : Value).ownBlock ∧ some k_ ≠ (.slice Ao33 t309.length co33 : Value).ownBlock ∧ some k_ ≠ (.slice Ao36 t313.length co36 : Value).ownBlock ∧ some k_ ≠ (.slice Ao41 t316.length co41 : Value).ownBlock ∧ some k_ ≠ (.slice Ao69 t325.length co69 : Value).ownBlock) (Kd.R_keptB (HO324.1) hkp (fun k_ hk_ hs_ => Or.elim hs_ (fun e_ => (hk_.1.1.1.2) e_) (fun e_ => (hk_.1.1.2) e_))) (fun k_ hk_ => ⟨hk_.1.1.1.1.1.1.2, hk_.1.1.1.1.1.2, hk_.1.1.1.1.2, hk_.1.1.1.2, hk_.1.1.2, hk_.1.2, hk_.1.1.1.1.1.1.1⟩)); have n11_ := Aside0.mk (Kd.R_mono (ok' := fun k_ => some k_ ≠ (.slice Ao22 t298.length co22 : Value).ownBlock ∧ some k_ ≠ (.slice Ao25 t301.length co25 : Value).ownBlock ∧ some k_ ≠ (.slice Ao29 t306.length co29 : Value).ownBlock ∧ some k_ ≠ (.slice Ao33 t309.length co33 : Value).ownBlock ∧ some k_ ≠ (.slice Ao36 t313.length co36 : Value).ownBlock ∧ some k_ ≠ (.slice Ao41 t316.length co41 : Value).ownBlock ∧ some k_ ≠ (.slice Ao68 t322.length co68 : Value).ownBlock) (Kd.R_keptB (HO327.1) hkp (fun k_ hk_ hs_ => Or.elim hs_ (fun e_ => (hk_.1.1.1.2) e_) (fun e_ => (hk_.1.1.2) e_))) (fun k_ hk_ => ⟨hk_.1.1.1.1.1.1.2, hk_.1.1.1.1.1.2, hk_.1.1.1.1.2, hk_.1.1.1.2, hk_.1.1.2, hk_.1.2, hk_.1.1.1.1.1.1.1⟩)); have n12_ := Aside0.mk (hb); clear Q306_0; clear Q306_1; clear Q313_0; clear Q313_1; clear Q321_0; clear Q321_1; clear BK290; clear BK305; clear BK312; clear BK320; clear HO324; clear HO327; clear HB; have Q306_0 := n0_; have Q306_1 := n1_; have Q313_0 := n2_; have Q313_1 := n3_; have Q321_0 := n4_; have Q321_1 := n5_; have BK290 := n6_; have BK305 := n7_; have BK312 := n8_; have BK320 := n9_; have HO324 := n10_; have HO327 := n11_; have HB := n12_; clear n0_ n1_ n2_ n3_ n4_ n5_ n6_ n7_ n8_ n9_ n10_ n11_ n12_; (try clear hb); (try clear hkp); (try clear hy0); (try clear hy1)))
      (try simp only [Act.put, List.setIfInBounds_toArray, List.set_cons_zero, List.set_cons_succ])
      go_cut [65] (fun v65 wc => ∃ (kq : Nat) (x65_64 : Bool), v65 = .bool x65_64 ∧ Aside0 (laws_FnExactWorstGloves.j1 kq a1 t304 x65_64 l0_0 l0_1 t298 t301 t313 t316 = some r) ∧ Aside0 (kq ≤ kj11) ∧ Aside0 (Kd.R (Kd.int .i64) 3 wc w.heap.size (fun k_ => some k_ ≠ ((.slice Ao25 t301.length co25) : Value).ownBlock ∧ some k_ ≠ ((.slice Ao29 t306.length co29) : Value).ownBlock ∧ some k_ ≠ ((.slice Ao33 t309.length co33) : Value).ownBlock ∧ some k_ ≠ ((.slice Ao36 t313.length co36) : Value).ownBlock ∧ some k_ ≠ ((.slice Ao41 t316.length co41) : Value).ownBlock) (.slice Ao22 t298.length co22) t298) ∧ Aside0 (Kd.R (Kd.int .i64) 3 wc w.heap.size (fun k_ => some k_ ≠ ((.slice Ao22 t298.length co22) : Value).ownBlock ∧ some k_ ≠ ((.slice Ao29 t306.length co29) : Value).ownBlock ∧ some k_ ≠ ((.slice Ao33 t309.length co33) : Value).ownBlock ∧ some k_ ≠ ((.slice Ao36 t313.length co36) : Value).ownBlock ∧ some k_ ≠ ((.slice Ao41 t316.length co41) : Value).ownBlock) (.slice Ao25 t301.length co25) t301) ∧ Aside0 (Kd.R (Kd.int .i64) 3 wc w.heap.size (fun k_ => some k_ ≠ ((.slice Ao22 t298.length co22) : Value).ownBlock ∧ some k_ ≠ ((.slice Ao25 t301.length co25) : Value).ownBlock ∧ some k_ ≠ ((.slice Ao33 t309.length co33) : Value).ownBlock ∧ some k_ ≠ ((.slice Ao36 t313.length co36) : Value).ownBlock ∧ some k_ ≠ ((.slice Ao41 t316.length co41) : Value).ownBlock) (.slice Ao29 t306.length co29) t330) ∧ Aside0 (Kd.R (Kd.int .i64) 3 wc w.heap.size (fun k_ => some k_ ≠ ((.slice Ao22 t298.length co22) : Value).ownBlock ∧ some k_ ≠ ((.slice Ao25 t301.length co25) : Value).ownBlock ∧ some k_ ≠ ((.slice Ao29 t306.length co29) : Value).ownBlock ∧ some k_ ≠ ((.slice Ao36 t313.length co36) : Value).ownBlock ∧ some k_ ≠ ((.slice Ao41 t316.length co41) : Value).ownBlock) (.slice Ao33 t309.length co33) t331) ∧ Aside0 (Kd.R (Kd.int .i64) 3 wc w.heap.size (fun k_ => some k_ ≠ ((.slice Ao22 t298.length co22) : Value).ownBlock ∧ some k_ ≠ ((.slice Ao25 t301.length co25) : Value).ownBlock ∧ some k_ ≠ ((.slice Ao29 t306.length co29) : Value).ownBlock ∧ some k_ ≠ ((.slice Ao33 t309.length co33) : Value).ownBlock ∧ some k_ ≠ ((.slice Ao41 t316.length co41) : Value).ownBlock) (.slice Ao36 t313.length co36) t313) ∧ Aside0 (Kd.R (Kd.int .i64) 3 wc w.heap.size (fun k_ => some k_ ≠ ((.slice Ao22 t298.length co22) : Value).ownBlock ∧ some k_ ≠ ((.slice Ao25 t301.length co25) : Value).ownBlock ∧ some k_ ≠ ((.slice Ao29 t306.length co29) : Value).ownBlock ∧ some k_ ≠ ((.slice Ao33 t309.length co33) : Value).ownBlock ∧ some k_ ≠ ((.slice Ao36 t313.length co36) : Value).ownBlock) (.slice Ao41 t316.length co41) t316) ∧ Aside0 (wc.heap[gb290]? = some (.cells #[(.slice A0_0 l0_0.length c0_0), (.slice A0_1 l0_1.length c0_1)] 24 (0, 0))) ∧ Aside0 (wc.heap[gb305]? = some (.cells #[(.slice Ao22 t298.length co22), (.slice Ao25 t301.length co25)] 28 (0, 0))) ∧ Aside0 (wc.heap[gb312]? = some (.cells #[(.slice Ao29 t306.length co29), (.slice Ao33 t309.length co33)] 28 (0, 0))) ∧ Aside0 (wc.heap[gb320]? = some (.cells #[(.slice Ao36 t313.length co36), (.slice Ao41 t316.length co41)] 28 (0, 0))) ∧ Aside0 (Below w.heap.size w wc))
      case first =>
       have H := HC65.1
       clear HC65
       by_cases c76 : t329 < 0
       ·rw [if_pos c76] at H
        have c76b0 : decide (t329 < 0) = true := decide_eq_true c76
        clear c76
        (first | rw [c76b0] | (simp only [i64_w, i32_w]; rw [c76b0]) | skip)
        have H' := Aside0.mk H
        clear H
        go_wp2
        go_meet
        case rel => exact ⟨_, (true), (by first | rfl | (simp; done) | (simp [*]; done) | (simp [Go.IntWalk.i64_left]; done)), H', ⟨by have := HJ11.1; first | omega | exact Nat.le_refl _⟩, ⟨by (with_reducible repeat (first | apply Kd.R_alloc | apply Kd.R_drewN | apply Kd.R_drew)); exact Kd.R_mono Q306_0.1 (fun _ hk => ⟨hk.1, ⟨hk.2.1, ⟨hk.2.2.1, ⟨hk.2.2.2.1, hk.2.2.2.2.1⟩⟩⟩⟩)⟩, ⟨by (with_reducible repeat (first | apply Kd.R_alloc | apply Kd.R_drewN | apply Kd.R_drew)); exact Kd.R_mono Q306_1.1 (fun _ hk => ⟨hk.1, ⟨hk.2.1, ⟨hk.2.2.1, ⟨hk.2.2.2.1, hk.2.2.2.2.1⟩⟩⟩⟩)⟩, ⟨by (with_reducible repeat (first | apply Kd.R_alloc | apply Kd.R_drewN | apply Kd.R_drew)); exact Kd.R_mono Q313_0.1 (fun _ hk => ⟨hk.1.1.1, ⟨hk.1.1.2.1, ⟨hk.1.1.2.2.1, ⟨hk.1.1.2.2.2.1, hk.1.1.2.2.2.2⟩⟩⟩⟩)⟩, ⟨by (with_reducible repeat (first | apply Kd.R_alloc | apply Kd.R_drewN | apply Kd.R_drew)); exact Kd.R_mono Q313_1.1 (fun _ hk => ⟨hk.1.1.1, ⟨hk.1.1.2.1, ⟨hk.1.1.2.2.1, ⟨hk.1.1.2.2.2.1, hk.1.1.2.2.2.2⟩⟩⟩⟩)⟩, ⟨by (with_reducible repeat (first | apply Kd.R_alloc | apply Kd.R_drewN | apply Kd.R_drew)); exact Kd.R_mono Q321_0.1 (fun _ hk => ⟨hk.1, ⟨hk.2.1, ⟨hk.2.2.1, ⟨hk.2.2.2.1, hk.2.2.2.2.1⟩⟩⟩⟩)⟩, ⟨by (with_reducible repeat (first | apply Kd.R_alloc | apply Kd.R_drewN | apply Kd.R_drew)); exact Kd.R_mono Q321_1.1 (fun _ hk => ⟨hk.1, ⟨hk.2.1, ⟨hk.2.2.1, ⟨hk.2.2.2.1, hk.2.2.2.2.1⟩⟩⟩⟩)⟩, ⟨by (with_reducible repeat (first | refine blk_drewN ?_ _ | refine blk_drew ?_ | refine blk_alloc ?_ _)); exact BK290.1⟩, ⟨by (with_reducible repeat (first | refine blk_drewN ?_ _ | refine blk_drew ?_ | refine blk_alloc ?_ _)); exact BK305.1⟩, ⟨by (with_reducible repeat (first | refine blk_drewN ?_ _ | refine blk_drew ?_ | refine blk_alloc ?_ _)); exact BK312.1⟩, ⟨by (with_reducible repeat (first | refine blk_drewN ?_ _ | refine blk_drew ?_ | refine blk_alloc ?_ _)); exact BK320.1⟩, ⟨by repeat (first | (with_reducible first | exact HB.1 | apply below_alloc | apply pw_below_drewN | apply below_drew1 | refine below_set ?_ GE290.1 | refine below_set ?_ GE305.1 | refine below_set ?_ GE312.1 | refine below_set ?_ GE320.1) | exact HB.1)⟩⟩
       ·rw [if_neg c76] at H
        have c76b0 : decide (t329 < 0) = false := decide_eq_false c76
        clear c76
        (first | rw [c76b0] | (simp only [i64_w, i32_w]; rw [c76b0]) | skip)
        replace H := Option.bind_eq_some_iff.mp H
        obtain ⟨t332, A770, H⟩ := H
        replace H : (if t332 = true then (laws_FnExactWorstGloves.j1 kj11 a1 t304 (t319 != t304) l0_0 l0_1 t298 t301 t313 t316) else (laws_FnExactWorstGloves.j1 kj11 a1 t304 true l0_0 l0_1 t298 t301 t313 t316)) = some r := H
        have A77 := Aside0.mk A770
        clear A770
        by_cases c78 : t332 = true
        ·subst c78
         have H1 : (laws_FnExactWorstGloves.j1 kj11 a1 t304 (t319 != t304) l0_0 l0_1 t298 t301 t313 t316) = some r := by rw [if_pos rfl] at H; exact H
         clear H
         have H := H1
         clear H1
         have H' := Aside0.mk H
         clear H
         have hnb79 := NB320_290.1
         have hnc79 := NB290_320.1
         have hnb80 := NB320_305.1
         have hnc80 := NB305_320.1
         have hnb81 := NB320_312.1
         have hnc81 := NB312_320.1
         have hcz82_0 : w75.cell? ⟨gb320, 0, none⟩ = some (.slice Ao36 t313.length co36) := (blk_cell BK320.1 0).trans rfl
         have hcz82_1 : w75.cell? ⟨gb320, 1, none⟩ = some (.slice Ao41 t316.length co41) := (blk_cell BK320.1 1).trans rfl
         have hfz82_0 := blk_frozen BK320.1 0
         have hfz82_1 := blk_frozen BK320.1 1
         have hnb83 := NB305_290.1
         have hnc83 := NB290_305.1
         have hnb84 := NB305_312.1
         have hnc84 := NB312_305.1
         have hcz85_0 : w75.cell? ⟨gb305, 0, none⟩ = some (.slice Ao22 t298.length co22) := (blk_cell BK305.1 0).trans rfl
         have hcz85_1 : w75.cell? ⟨gb305, 1, none⟩ = some (.slice Ao25 t301.length co25) := (blk_cell BK305.1 1).trans rfl
         have hfz85_0 := blk_frozen BK305.1 0
         have hfz85_1 := blk_frozen BK305.1 1
         go_wp2_with (first | (go_at_call 19; (with_reducible refine (laws_eqGloves.calls kj11 _ _ t313 _ _ t316 _ _ t298 _ _ t301 true _ ?side1 ?side2 ?side3 ?side4 ?side5 ?side6 ?side7 ?side8 A77.1).mono ?_); (case side1 => repeat (first | exact (Kd.R_reads' Q321_0.1).2.2 | (with_reducible refine Kd.C_alloc ?_ _) | (with_reducible refine Kd.C_drewN ?_ _) | (with_reducible refine Kd.C_drew ?_))); (case side2 => exact (Kd.R_reads' Q321_0.1).2.1); (case side3 => repeat (first | exact (Kd.R_reads' Q321_1.1).2.2 | (with_reducible refine Kd.C_alloc ?_ _) | (with_reducible refine Kd.C_drewN ?_ _) | (with_reducible refine Kd.C_drew ?_))); (case side4 => exact (Kd.R_reads' Q321_1.1).2.1); (case side5 => repeat (first | exact (Kd.R_reads' Q306_0.1).2.2 | (with_reducible refine Kd.C_alloc ?_ _) | (with_reducible refine Kd.C_drewN ?_ _) | (with_reducible refine Kd.C_drew ?_))); (case side6 => exact (Kd.R_reads' Q306_0.1).2.1); (case side7 => repeat (first | exact (Kd.R_reads' Q306_1.1).2.2 | (with_reducible refine Kd.C_alloc ?_ _) | (with_reducible refine Kd.C_drewN ?_ _) | (with_reducible refine Kd.C_drew ?_))); (case side8 => exact (Kd.R_reads' Q306_1.1).2.1); rintro e w86 ⟨rfl, hb⟩; have n0_ := Aside0.mk (Kd.R_below (by (with_reducible repeat (first | apply Kd.R_alloc | apply Kd.R_drewN | apply Kd.R_drew)); exact Q306_0.1) hb); have n1_ := Aside0.mk (Kd.R_below (by (with_reducible repeat (first | apply Kd.R_alloc | apply Kd.R_drewN | apply Kd.R_drew)); exact Q306_1.1) hb); have n2_ := Aside0.mk (Kd.R_below (by (with_reducible repeat (first | apply Kd.R_alloc | apply Kd.R_drewN | apply Kd.R_drew)); exact Q313_0.1) hb); have n3_ := Aside0.mk (Kd.R_below (by (with_reducible repeat (first | apply Kd.R_alloc | apply Kd.R_drewN | apply Kd.R_drew)); exact Q313_1.1) hb); have n4_ := Aside0.mk (Kd.R_below (by (with_reducible repeat (first | apply Kd.R_alloc | apply Kd.R_drewN | apply Kd.R_drew)); exact Q321_0.1) hb); have n5_ := Aside0.mk (Kd.R_below (by (with_reducible repeat (first | apply Kd.R_alloc | apply Kd.R_drewN | apply Kd.R_drew)); exact Q321_1.1) hb); have n6_ := Aside0.mk (Kd.R_below (by (with_reducible repeat (first | apply Kd.R_alloc | apply Kd.R_drewN | apply Kd.R_drew)); exact HO324.1) hb); have n7_ := Aside0.mk (Kd.R_below (by (with_reducible repeat (first | apply Kd.R_alloc | apply Kd.R_drewN | apply Kd.R_drew)); exact HO327.1) hb); have n8_ := Aside0.mk (blk_below (g := gb290) (o := .cells #[.slice A0_0 l0_0.length c0_0, .slice A0_1 l0_1.length c0_1] 24 (0, 0)) (by (with_reducible repeat (first | refine blk_drewN ?_ _ | refine blk_drew ?_ | refine blk_alloc ?_ _)); exact BK290.1) hb); have n9_ := Aside0.mk (blk_below (g := gb305) (o := .cells #[.slice Ao22 t298.length co22, .slice Ao25 t301.length co25] 28 (0, 0)) (by (with_reducible repeat (first | refine blk_drewN ?_ _ | refine blk_drew ?_ | refine blk_alloc ?_ _)); exact BK305.1) hb); have n10_ := Aside0.mk (blk_below (g := gb312) (o := .cells #[.slice Ao29 t306.length co29, .slice Ao33 t309.length co33] 28 (0, 0)) (by (with_reducible repeat (first | refine blk_drewN ?_ _ | refine blk_drew ?_ | refine blk_alloc ?_ _)); exact BK312.1) hb); have n11_ := Aside0.mk (blk_below (g := gb320) (o := .cells #[.slice Ao36 t313.length co36, .slice Ao41 t316.length co41] 28 (0, 0)) (by (with_reducible repeat (first | refine blk_drewN ?_ _ | refine blk_drew ?_ | refine blk_alloc ?_ _)); exact BK320.1) hb); have n12_ := Aside0.mk (below_step (by repeat (first | (with_reducible first | exact HB.1 | apply below_alloc | apply pw_below_drewN | apply below_drew1 | refine below_set ?_ GE290.1 | refine below_set ?_ GE305.1 | refine below_set ?_ GE312.1 | refine below_set ?_ GE320.1) | exact HB.1)) hb); clear Q306_0; clear Q306_1; clear Q313_0; clear Q313_1; clear Q321_0; clear Q321_1; clear HO324; clear HO327; clear BK290; clear BK305; clear BK312; clear BK320; clear HB; have Q306_0 := n0_; have Q306_1 := n1_; have Q313_0 := n2_; have Q313_1 := n3_; have Q321_0 := n4_; have Q321_1 := n5_; have HO324 := n6_; have HO327 := n7_; have BK290 := n8_; have BK305 := n9_; have BK312 := n10_; have BK320 := n11_; have HB := n12_; clear n0_ n1_ n2_ n3_ n4_ n5_ n6_ n7_ n8_ n9_ n10_ n11_ n12_; (try clear hb); (try clear hb2); (try clear hk); (try clear hi)))
         go_meet
         case rel => exact ⟨_, ((t319 != t304)), (by first | rfl | (simp; done) | (simp [*]; done) | (simp [Go.IntWalk.i64_left]; done)), H', ⟨by have := HJ11.1; first | omega | exact Nat.le_refl _⟩, ⟨by (with_reducible repeat (first | apply Kd.R_alloc | apply Kd.R_drewN | apply Kd.R_drew)); exact Kd.R_mono Q306_0.1 (fun _ hk => ⟨hk.1, ⟨hk.2.1, ⟨hk.2.2.1, ⟨hk.2.2.2.1, hk.2.2.2.2.1⟩⟩⟩⟩)⟩, ⟨by (with_reducible repeat (first | apply Kd.R_alloc | apply Kd.R_drewN | apply Kd.R_drew)); exact Kd.R_mono Q306_1.1 (fun _ hk => ⟨hk.1, ⟨hk.2.1, ⟨hk.2.2.1, ⟨hk.2.2.2.1, hk.2.2.2.2.1⟩⟩⟩⟩)⟩, ⟨by (with_reducible repeat (first | apply Kd.R_alloc | apply Kd.R_drewN | apply Kd.R_drew)); exact Kd.R_mono Q313_0.1 (fun _ hk => ⟨hk.1.1.1, ⟨hk.1.1.2.1, ⟨hk.1.1.2.2.1, ⟨hk.1.1.2.2.2.1, hk.1.1.2.2.2.2⟩⟩⟩⟩)⟩, ⟨by (with_reducible repeat (first | apply Kd.R_alloc | apply Kd.R_drewN | apply Kd.R_drew)); exact Kd.R_mono Q313_1.1 (fun _ hk => ⟨hk.1.1.1, ⟨hk.1.1.2.1, ⟨hk.1.1.2.2.1, ⟨hk.1.1.2.2.2.1, hk.1.1.2.2.2.2⟩⟩⟩⟩)⟩, ⟨by (with_reducible repeat (first | apply Kd.R_alloc | apply Kd.R_drewN | apply Kd.R_drew)); exact Kd.R_mono Q321_0.1 (fun _ hk => ⟨hk.1, ⟨hk.2.1, ⟨hk.2.2.1, ⟨hk.2.2.2.1, hk.2.2.2.2.1⟩⟩⟩⟩)⟩, ⟨by (with_reducible repeat (first | apply Kd.R_alloc | apply Kd.R_drewN | apply Kd.R_drew)); exact Kd.R_mono Q321_1.1 (fun _ hk => ⟨hk.1, ⟨hk.2.1, ⟨hk.2.2.1, ⟨hk.2.2.2.1, hk.2.2.2.2.1⟩⟩⟩⟩)⟩, ⟨by (with_reducible repeat (first | refine blk_drewN ?_ _ | refine blk_drew ?_ | refine blk_alloc ?_ _)); exact BK290.1⟩, ⟨by (with_reducible repeat (first | refine blk_drewN ?_ _ | refine blk_drew ?_ | refine blk_alloc ?_ _)); exact BK305.1⟩, ⟨by (with_reducible repeat (first | refine blk_drewN ?_ _ | refine blk_drew ?_ | refine blk_alloc ?_ _)); exact BK312.1⟩, ⟨by (with_reducible repeat (first | refine blk_drewN ?_ _ | refine blk_drew ?_ | refine blk_alloc ?_ _)); exact BK320.1⟩, ⟨by repeat (first | (with_reducible first | exact HB.1 | apply below_alloc | apply pw_below_drewN | apply below_drew1 | refine below_set ?_ GE290.1 | refine below_set ?_ GE305.1 | refine below_set ?_ GE312.1 | refine below_set ?_ GE320.1) | exact HB.1)⟩⟩
        ·replace c78 := Bool.eq_false_iff.mpr c78
         subst c78
         have H1 : (laws_FnExactWorstGloves.j1 kj11 a1 t304 true l0_0 l0_1 t298 t301 t313 t316) = some r := by rw [if_neg (show ¬ (false = true) by decide)] at H; exact H
         clear H
         have H := H1
         clear H1
         have H' := Aside0.mk H
         clear H
         have hnb87 := NB320_290.1
         have hnc87 := NB290_320.1
         have hnb88 := NB320_305.1
         have hnc88 := NB305_320.1
         have hnb89 := NB320_312.1
         have hnc89 := NB312_320.1
         have hcz90_0 : w75.cell? ⟨gb320, 0, none⟩ = some (.slice Ao36 t313.length co36) := (blk_cell BK320.1 0).trans rfl
         have hcz90_1 : w75.cell? ⟨gb320, 1, none⟩ = some (.slice Ao41 t316.length co41) := (blk_cell BK320.1 1).trans rfl
         have hfz90_0 := blk_frozen BK320.1 0
         have hfz90_1 := blk_frozen BK320.1 1
         have hnb91 := NB305_290.1
         have hnc91 := NB290_305.1
         have hnb92 := NB305_312.1
         have hnc92 := NB312_305.1
         have hcz93_0 : w75.cell? ⟨gb305, 0, none⟩ = some (.slice Ao22 t298.length co22) := (blk_cell BK305.1 0).trans rfl
         have hcz93_1 : w75.cell? ⟨gb305, 1, none⟩ = some (.slice Ao25 t301.length co25) := (blk_cell BK305.1 1).trans rfl
         have hfz93_0 := blk_frozen BK305.1 0
         have hfz93_1 := blk_frozen BK305.1 1
         go_wp2_with (first | (go_at_call 19; (with_reducible refine (laws_eqGloves.calls kj11 _ _ t313 _ _ t316 _ _ t298 _ _ t301 false _ ?side1 ?side2 ?side3 ?side4 ?side5 ?side6 ?side7 ?side8 A77.1).mono ?_); (case side1 => repeat (first | exact (Kd.R_reads' Q321_0.1).2.2 | (with_reducible refine Kd.C_alloc ?_ _) | (with_reducible refine Kd.C_drewN ?_ _) | (with_reducible refine Kd.C_drew ?_))); (case side2 => exact (Kd.R_reads' Q321_0.1).2.1); (case side3 => repeat (first | exact (Kd.R_reads' Q321_1.1).2.2 | (with_reducible refine Kd.C_alloc ?_ _) | (with_reducible refine Kd.C_drewN ?_ _) | (with_reducible refine Kd.C_drew ?_))); (case side4 => exact (Kd.R_reads' Q321_1.1).2.1); (case side5 => repeat (first | exact (Kd.R_reads' Q306_0.1).2.2 | (with_reducible refine Kd.C_alloc ?_ _) | (with_reducible refine Kd.C_drewN ?_ _) | (with_reducible refine Kd.C_drew ?_))); (case side6 => exact (Kd.R_reads' Q306_0.1).2.1); (case side7 => repeat (first | exact (Kd.R_reads' Q306_1.1).2.2 | (with_reducible refine Kd.C_alloc ?_ _) | (with_reducible refine Kd.C_drewN ?_ _) | (with_reducible refine Kd.C_drew ?_))); (case side8 => exact (Kd.R_reads' Q306_1.1).2.1); rintro e w94 ⟨rfl, hb⟩; have n0_ := Aside0.mk (Kd.R_below (by (with_reducible repeat (first | apply Kd.R_alloc | apply Kd.R_drewN | apply Kd.R_drew)); exact Q306_0.1) hb); have n1_ := Aside0.mk (Kd.R_below (by (with_reducible repeat (first | apply Kd.R_alloc | apply Kd.R_drewN | apply Kd.R_drew)); exact Q306_1.1) hb); have n2_ := Aside0.mk (Kd.R_below (by (with_reducible repeat (first | apply Kd.R_alloc | apply Kd.R_drewN | apply Kd.R_drew)); exact Q313_0.1) hb); have n3_ := Aside0.mk (Kd.R_below (by (with_reducible repeat (first | apply Kd.R_alloc | apply Kd.R_drewN | apply Kd.R_drew)); exact Q313_1.1) hb); have n4_ := Aside0.mk (Kd.R_below (by (with_reducible repeat (first | apply Kd.R_alloc | apply Kd.R_drewN | apply Kd.R_drew)); exact Q321_0.1) hb); have n5_ := Aside0.mk (Kd.R_below (by (with_reducible repeat (first | apply Kd.R_alloc | apply Kd.R_drewN | apply Kd.R_drew)); exact Q321_1.1) hb); have n6_ := Aside0.mk (Kd.R_below (by (with_reducible repeat (first | apply Kd.R_alloc | apply Kd.R_drewN | apply Kd.R_drew)); exact HO324.1) hb); have n7_ := Aside0.mk (Kd.R_below (by (with_reducible repeat (first | apply Kd.R_alloc | apply Kd.R_drewN | apply Kd.R_drew)); exact HO327.1) hb); have n8_ := Aside0.mk (blk_below (g := gb290) (o := .cells #[.slice A0_0 l0_0.length c0_0, .slice A0_1 l0_1.length c0_1] 24 (0, 0)) (by (with_reducible repeat (first | refine blk_drewN ?_ _ | refine blk_drew ?_ | refine blk_alloc ?_ _)); exact BK290.1) hb); have n9_ := Aside0.mk (blk_below (g := gb305) (o := .cells #[.slice Ao22 t298.length co22, .slice Ao25 t301.length co25] 28 (0, 0)) (by (with_reducible repeat (first | refine blk_drewN ?_ _ | refine blk_drew ?_ | refine blk_alloc ?_ _)); exact BK305.1) hb); have n10_ := Aside0.mk (blk_below (g := gb312) (o := .cells #[.slice Ao29 t306.length co29, .slice Ao33 t309.length co33] 28 (0, 0)) (by (with_reducible repeat (first | refine blk_drewN ?_ _ | refine blk_drew ?_ | refine blk_alloc ?_ _)); exact BK312.1) hb); have n11_ := Aside0.mk (blk_below (g := gb320) (o := .cells #[.slice Ao36 t313.length co36, .slice Ao41 t316.length co41] 28 (0, 0)) (by (with_reducible repeat (first | refine blk_drewN ?_ _ | refine blk_drew ?_ | refine blk_alloc ?_ _)); exact BK320.1) hb); have n12_ := Aside0.mk (below_step (by repeat (first | (with_reducible first | exact HB.1 | apply below_alloc | apply pw_below_drewN | apply below_drew1 | refine below_set ?_ GE290.1 | refine below_set ?_ GE305.1 | refine below_set ?_ GE312.1 | refine below_set ?_ GE320.1) | exact HB.1)) hb); clear Q306_0; clear Q306_1; clear Q313_0; clear Q313_1; clear Q321_0; clear Q321_1; clear HO324; clear HO327; clear BK290; clear BK305; clear BK312; clear BK320; clear HB; have Q306_0 := n0_; have Q306_1 := n1_; have Q313_0 := n2_; have Q313_1 := n3_; have Q321_0 := n4_; have Q321_1 := n5_; have HO324 := n6_; have HO327 := n7_; have BK290 := n8_; have BK305 := n9_; have BK312 := n10_; have BK320 := n11_; have HB := n12_; clear n0_ n1_ n2_ n3_ n4_ n5_ n6_ n7_ n8_ n9_ n10_ n11_ n12_; (try clear hb); (try clear hb2); (try clear hk); (try clear hi)))
         go_meet
         case rel => exact ⟨_, (true), (by first | rfl | (simp; done) | (simp [*]; done) | (simp [Go.IntWalk.i64_left]; done)), H', ⟨by have := HJ11.1; first | omega | exact Nat.le_refl _⟩, ⟨by (with_reducible repeat (first | apply Kd.R_alloc | apply Kd.R_drewN | apply Kd.R_drew)); exact Kd.R_mono Q306_0.1 (fun _ hk => ⟨hk.1, ⟨hk.2.1, ⟨hk.2.2.1, ⟨hk.2.2.2.1, hk.2.2.2.2.1⟩⟩⟩⟩)⟩, ⟨by (with_reducible repeat (first | apply Kd.R_alloc | apply Kd.R_drewN | apply Kd.R_drew)); exact Kd.R_mono Q306_1.1 (fun _ hk => ⟨hk.1, ⟨hk.2.1, ⟨hk.2.2.1, ⟨hk.2.2.2.1, hk.2.2.2.2.1⟩⟩⟩⟩)⟩, ⟨by (with_reducible repeat (first | apply Kd.R_alloc | apply Kd.R_drewN | apply Kd.R_drew)); exact Kd.R_mono Q313_0.1 (fun _ hk => ⟨hk.1.1.1, ⟨hk.1.1.2.1, ⟨hk.1.1.2.2.1, ⟨hk.1.1.2.2.2.1, hk.1.1.2.2.2.2⟩⟩⟩⟩)⟩, ⟨by (with_reducible repeat (first | apply Kd.R_alloc | apply Kd.R_drewN | apply Kd.R_drew)); exact Kd.R_mono Q313_1.1 (fun _ hk => ⟨hk.1.1.1, ⟨hk.1.1.2.1, ⟨hk.1.1.2.2.1, ⟨hk.1.1.2.2.2.1, hk.1.1.2.2.2.2⟩⟩⟩⟩)⟩, ⟨by (with_reducible repeat (first | apply Kd.R_alloc | apply Kd.R_drewN | apply Kd.R_drew)); exact Kd.R_mono Q321_0.1 (fun _ hk => ⟨hk.1, ⟨hk.2.1, ⟨hk.2.2.1, ⟨hk.2.2.2.1, hk.2.2.2.2.1⟩⟩⟩⟩)⟩, ⟨by (with_reducible repeat (first | apply Kd.R_alloc | apply Kd.R_drewN | apply Kd.R_drew)); exact Kd.R_mono Q321_1.1 (fun _ hk => ⟨hk.1, ⟨hk.2.1, ⟨hk.2.2.1, ⟨hk.2.2.2.1, hk.2.2.2.2.1⟩⟩⟩⟩)⟩, ⟨by (with_reducible repeat (first | refine blk_drewN ?_ _ | refine blk_drew ?_ | refine blk_alloc ?_ _)); exact BK290.1⟩, ⟨by (with_reducible repeat (first | refine blk_drewN ?_ _ | refine blk_drew ?_ | refine blk_alloc ?_ _)); exact BK305.1⟩, ⟨by (with_reducible repeat (first | refine blk_drewN ?_ _ | refine blk_drew ?_ | refine blk_alloc ?_ _)); exact BK312.1⟩, ⟨by (with_reducible repeat (first | refine blk_drewN ?_ _ | refine blk_drew ?_ | refine blk_alloc ?_ _)); exact BK320.1⟩, ⟨by repeat (first | (with_reducible first | exact HB.1 | apply below_alloc | apply pw_below_drewN | apply below_drew1 | refine below_set ?_ GE290.1 | refine below_set ?_ GE305.1 | refine below_set ?_ GE312.1 | refine below_set ?_ GE320.1) | exact HB.1)⟩⟩
      case rest =>
       clear HC65
       try clear c1
       try clear c2
       try clear p2
       try clear c3
       try clear c4
       try clear c4b0
       try clear c5
       try clear c6
       try clear c7
       try clear c8
       try clear c9
       try clear c14
       try clear c15
       try clear c17
       try clear c19
       try clear c23
       try clear c28
       try clear c30
       try clear c31
       try clear c37
       try clear c38
       try clear c39
       try clear c42
       try clear c43
       try clear c44
       try clear c45
       try clear c46
       try clear c48
       try clear c49
       try clear c52
       try clear c53
       try clear c54
       try clear c56
       try clear c57
       try clear c60
       try clear c63
       try clear c71
       try clear c72
       try clear c73
       try clear c76
       try clear c76b0
       try clear c78
       try clear c79
       try clear c80
       try clear c81
       try clear c83
       try clear c84
       try clear c87
       try clear c88
       try clear c89
       try clear c91
       try clear c92
       try clear hcz14_0
       try clear hcz14_1
       try clear hcz16_0
       try clear hcz16_1
       try clear hcz24_0
       try clear hcz24_1
       try clear hcz26_0
       try clear hcz26_1
       try clear hcz32_0
       try clear hcz32_1
       try clear hcz40_0
       try clear hcz40_1
       try clear hcz47_0
       try clear hcz47_1
       try clear hcz50_0
       try clear hcz50_1
       try clear hcz55_0
       try clear hcz55_1
       try clear hcz58_0
       try clear hcz58_1
       try clear hcz6_0
       try clear hcz6_1
       try clear hcz74_0
       try clear hcz74_1
       try clear hcz82_0
       try clear hcz82_1
       try clear hcz85_0
       try clear hcz85_1
       try clear hcz90_0
       try clear hcz90_1
       try clear hcz93_0
       try clear hcz93_1
       try clear hfz14_0
       try clear hfz14_1
       try clear hfz16_0
       try clear hfz16_1
       try clear hfz24_0
       try clear hfz24_1
       try clear hfz26_0
       try clear hfz26_1
       try clear hfz32_0
       try clear hfz32_1
       try clear hfz40_0
       try clear hfz40_1
       try clear hfz47_0
       try clear hfz47_1
       try clear hfz50_0
       try clear hfz50_1
       try clear hfz55_0
       try clear hfz55_1
       try clear hfz58_0
       try clear hfz58_1
       try clear hfz6_0
       try clear hfz6_1
       try clear hfz74_0
       try clear hfz74_1
       try clear hfz82_0
       try clear hfz82_1
       try clear hfz85_0
       try clear hfz85_1
       try clear hfz90_0
       try clear hfz90_1
       try clear hfz93_0
       try clear hfz93_1
       try clear p2
       obtain ⟨kq, x65_64, rfl, HA, HJ64, Q306_0, Q306_1, Q313_0, Q313_1, Q321_0, Q321_1, BK290, BK305, BK312, BK320, HB⟩ := hcut
       have hl313000_64 := (Kd.R_reads' Q313_0.1).1
       rw [hl313000_64] at Q313_0
       (try simp only [hl313000_64])
       (try simp only [hl313000_64] at BK290)
       (try simp only [hl313000_64] at BK305)
       (try simp only [hl313000_64] at BK312)
       (try simp only [hl313000_64] at BK320)
       (try simp only [hl313000_64] at Q306_0)
       (try simp only [hl313000_64] at Q306_1)
       (try simp only [hl313000_64] at Q313_1)
       (try simp only [hl313000_64] at Q321_0)
       (try simp only [hl313000_64] at Q321_1)
       have hl313001_64 := (Kd.R_reads' Q313_1.1).1
       rw [hl313001_64] at Q313_1
       (try simp only [hl313001_64])
       (try simp only [hl313001_64] at BK290)
       (try simp only [hl313001_64] at BK305)
       (try simp only [hl313001_64] at BK312)
       (try simp only [hl313001_64] at BK320)
       (try simp only [hl313001_64] at Q306_0)
       (try simp only [hl313001_64] at Q306_1)
       (try simp only [hl313001_64] at Q313_0)
       (try simp only [hl313001_64] at Q321_0)
       (try simp only [hl313001_64] at Q321_1)
       cases kq with
       | zero => exact absurd HA.1 (by simp [laws_FnExactWorstGloves.j1])
       | succ kj64 =>
        have H := HA.1
        clear HA
        simp only [laws_FnExactWorstGloves.j1] at H
        by_cases c95 : x65_64 = true
        ·subst c95
         have H1 : (some false) = some r := by rw [if_pos rfl] at H; exact H
         clear H
         have H := H1
         clear H1
         obtain rfl := Option.some.inj H
         go_wp2
         go_ret
         exact ⟨by first | rfl | (simp [errW_none, errW_some] <;> rfl) | (simp [Go.IntWalk.i64_left]; done) | (simp [*, errW_none, errW_some] <;> rfl), by repeat (first | (with_reducible first | exact HB.1 | apply below_alloc | apply pw_below_drewN | apply below_drew1 | refine below_set ?_ GE290.1 | refine below_set ?_ GE305.1 | refine below_set ?_ GE312.1 | refine below_set ?_ GE320.1) | exact HB.1)⟩
        ·replace c95 := Bool.eq_false_iff.mpr c95
         subst c95
         have H1 : ((laws_markGloves.f kj64 t313 t316 1).bind fun bt333 => ((laws_heldGloves.f kj64 bt333.2.1 bt333.2.2 1).bind fun t336 => (if t336 < 0 then (some false) else (if t336 = bt333.1 then ((laws_toGloves.f kj64 l0_0 l0_1).bind fun bt337 => ((impl_WorstGloves.f kj64 bt337.1 bt337.2 a1).bind fun bt343 => ((laws_eqGloves.f kj64 bt343.1 bt343.2.1 t298 t301).bind fun t351 => (if t351 = true then (laws_FnExactWorstGloves.j2 kj64 bt333.1 (bt343.2.2 != t304) bt333.2.1 bt333.2.2) else (laws_FnExactWorstGloves.j2 kj64 bt333.1 true bt333.2.1 bt333.2.2))))) else (some false))))) = some r := by rw [if_neg (show ¬ (false = true) by decide)] at H; exact H
         clear H
         have H := H1
         clear H1
         replace H := Option.bind_eq_some_iff.mp H
         obtain ⟨⟨t333, t334, t335⟩, A960, H⟩ := H
         replace H : ((laws_heldGloves.f kj64 t334 t335 1).bind fun t336 => (if t336 < 0 then (some false) else (if t336 = t333 then ((laws_toGloves.f kj64 l0_0 l0_1).bind fun bt337 => ((impl_WorstGloves.f kj64 bt337.1 bt337.2 a1).bind fun bt343 => ((laws_eqGloves.f kj64 bt343.1 bt343.2.1 t298 t301).bind fun t351 => (if t351 = true then (laws_FnExactWorstGloves.j2 kj64 t333 (bt343.2.2 != t304) t334 t335) else (laws_FnExactWorstGloves.j2 kj64 t333 true t334 t335))))) else (some false)))) = some r := H
         have A96 := Aside0.mk A960
         clear A960
         replace H := Option.bind_eq_some_iff.mp H
         obtain ⟨t336, A970, H⟩ := H
         replace H : (if t336 < 0 then (some false) else (if t336 = t333 then ((laws_toGloves.f kj64 l0_0 l0_1).bind fun bt337 => ((impl_WorstGloves.f kj64 bt337.1 bt337.2 a1).bind fun bt343 => ((laws_eqGloves.f kj64 bt343.1 bt343.2.1 t298 t301).bind fun t351 => (if t351 = true then (laws_FnExactWorstGloves.j2 kj64 t333 (bt343.2.2 != t304) t334 t335) else (laws_FnExactWorstGloves.j2 kj64 t333 true t334 t335))))) else (some false))) = some r := H
         have A97 := Aside0.mk A970
         clear A970
         by_cases c98 : t336 < 0
         ·rw [if_pos c98] at H
          have c98b0 : decide (t336 < 0) = true := decide_eq_true c98
          clear c98
          obtain rfl := Option.some.inj H
          have hnb99 := NB320_290.1
          have hnc99 := NB290_320.1
          have hnb100 := NB320_305.1
          have hnc100 := NB305_320.1
          have hnb101 := NB320_312.1
          have hnc101 := NB312_320.1
          have hcz102_0 : wc.cell? ⟨gb320, 0, none⟩ = some (.slice Ao36 t313.length co36) := (blk_cell BK320.1 0).trans rfl
          have hcz102_1 : wc.cell? ⟨gb320, 1, none⟩ = some (.slice Ao41 t316.length co41) := (blk_cell BK320.1 1).trans rfl
          have hfz102_0 := blk_frozen BK320.1 0
          have hfz102_1 := blk_frozen BK320.1 1
          go_wp2_with (first | ((with_reducible refine gate_callee (f := 28) rfl ?_); refine goesL_ (some 68) rfl rfl Try.func28 (by kernel_rfl) rfl #[.agg #[.slice Ao36 t313.length co36, .slice Ao41 t316.length co41], .int .i64 1] rfl (by (try simp only [List.map_toArray, List.map_cons, List.map_nil]); first | done | rfl | (simp only [List.length_drop, List.length_take]; rfl)) ?_; (with_reducible refine (laws_markGloves.calls kj64 (fun k_ => some k_ = (.slice Ao36 t313.length co36 : Value).ownBlock) (.slice Ao36 t313.length co36) t313 (fun k_ => some k_ = (.slice Ao41 t316.length co41 : Value).ownBlock) (.slice Ao41 t316.length co41) t316 1 t333 t334 t335 w _ ?side1 ?side2 ?side3 ?side4 ?side5 A96.1).mono ?_); (case side1 => repeat (first | (with_reducible first | exact HB.1 | apply below_alloc | apply pw_below_drewN | apply below_drew1 | refine below_set ?_ GE290.1 | refine below_set ?_ GE305.1 | refine below_set ?_ GE312.1 | refine below_set ?_ GE320.1) | exact HB.1)); (case side2 => exact Kd.R_tight rfl Q321_0.1); (case side3 => exact fun k_ e_ => (Q321_0.1.1 k_ e_.symm).2.2.2.2); (case side4 => exact Kd.R_tight rfl Q321_1.1); (case side5 => exact fun k_ e_ => (Q321_1.1.1 k_ e_.symm).2.2.2.2); rintro e w103 ⟨rfl, hy0, hy1, hb, hkp⟩; refine ⟨_, rfl, ?_⟩; have n0_ := Aside0.mk (Kd.R_mono (ok' := fun k_ => some k_ ≠ (.slice Ao25 t301.length co25 : Value).ownBlock ∧ some k_ ≠ (.slice Ao29 t330.length co29 : Value).ownBlock ∧ some k_ ≠ (.slice Ao33 t331.length co33 : Value).ownBlock ∧ some k_ ≠ (.slice Ao36 t313.length co36 : Value).ownBlock ∧ some k_ ≠ (.slice Ao41 t316.length co41 : Value).ownBlock) (Kd.R_keptB (Q306_0.1) hkp (fun k_ hk_ hs_ => Or.elim hs_ (fun e_ => (hk_.2.2.2.1) e_) (fun e_ => (hk_.2.2.2.2) e_))) (fun k_ hk_ => ⟨hk_.1.1, hk_.1.2.1, hk_.1.2.2.1, hk_.1.2.2.2.1, hk_.1.2.2.2.2⟩)); have n1_ := Aside0.mk (Kd.R_mono (ok' := fun k_ => some k_ ≠ (.slice Ao22 t298.length co22 : Value).ownBlock ∧ some k_ ≠ (.slice Ao29 t330.length co29 : Value).ownBlock ∧ some k_ ≠ (.slice Ao33 t331.length co33 : Value).ownBlock ∧ some k_ ≠ (.slice Ao36 t313.length co36 : Value).ownBlock ∧ some k_ ≠ (.slice Ao41 t316.length co41 : Value).ownBlock) (Kd.R_keptB (Q306_1.1) hkp (fun k_ hk_ hs_ => Or.elim hs_ (fun e_ => (hk_.2.2.2.1) e_) (fun e_ => (hk_.2.2.2.2) e_))) (fun k_ hk_ => ⟨hk_.1.1, hk_.1.2.1, hk_.1.2.2.1, hk_.1.2.2.2.1, hk_.1.2.2.2.2⟩)); have n2_ := Aside0.mk (Kd.R_mono (ok' := fun k_ => some k_ ≠ (.slice Ao22 t298.length co22 : Value).ownBlock ∧ some k_ ≠ (.slice Ao25 t301.length co25 : Value).ownBlock ∧ some k_ ≠ (.slice Ao33 t331.length co33 : Value).ownBlock ∧ some k_ ≠ (.slice Ao36 t313.length co36 : Value).ownBlock ∧ some k_ ≠ (.slice Ao41 t316.length co41 : Value).ownBlock) (Kd.R_keptB (Q313_0.1) hkp (fun k_ hk_ hs_ => Or.elim hs_ (fun e_ => (hk_.2.2.2.1) e_) (fun e_ => (hk_.2.2.2.2) e_))) (fun k_ hk_ => ⟨hk_.1.1, hk_.1.2.1, hk_.1.2.2.1, hk_.1.2.2.2.1, hk_.1.2.2.2.2⟩)); have n3_ := Aside0.mk (Kd.R_mono (ok' := fun k_ => some k_ ≠ (.slice Ao22 t298.length co22 : Value).ownBlock ∧ some k_ ≠ (.slice Ao25 t301.length co25 : Value).ownBlock ∧ some k_ ≠ (.slice Ao29 t330.length co29 : Value).ownBlock ∧ some k_ ≠ (.slice Ao36 t313.length co36 : Value).ownBlock ∧ some k_ ≠ (.slice Ao41 t316.length co41 : Value).ownBlock) (Kd.R_keptB (Q313_1.1) hkp (fun k_ hk_ hs_ => Or.elim hs_ (fun e_ => (hk_.2.2.2.1) e_) (fun e_ => (hk_.2.2.2.2) e_))) (fun k_ hk_ => ⟨hk_.1.1, hk_.1.2.1, hk_.1.2.2.1, hk_.1.2.2.2.1, hk_.1.2.2.2.2⟩)); have n4_ := Aside0.mk (Kd.R_reok rfl hy0 (fun k_ e_ => Q321_0.1.1 k_ e_)); have n5_ := Aside0.mk (Kd.R_reok rfl hy1 (fun k_ e_ => Q321_1.1.1 k_ e_)); have n6_ := Aside0.mk (blk_kept (by (with_reducible repeat (first | refine blk_drewN ?_ _ | refine blk_drew ?_ | refine blk_alloc ?_ _)); exact BK290.1) hkp (fun hs_ => Or.elim hs_ (fun e_ => (fun e_ => (Kd.R_ne Q321_0.1 BK290.1 (by decide)) e_) e_) (fun e_ => (fun e_ => (Kd.R_ne Q321_1.1 BK290.1 (by decide)) e_) e_))); have n7_ := Aside0.mk (blk_kept (by (with_reducible repeat (first | refine blk_drewN ?_ _ | refine blk_drew ?_ | refine blk_alloc ?_ _)); exact BK305.1) hkp (fun hs_ => Or.elim hs_ (fun e_ => (fun e_ => (Kd.R_ne Q321_0.1 BK305.1 (by decide)) e_) e_) (fun e_ => (fun e_ => (Kd.R_ne Q321_1.1 BK305.1 (by decide)) e_) e_))); have n8_ := Aside0.mk (blk_kept (by (with_reducible repeat (first | refine blk_drewN ?_ _ | refine blk_drew ?_ | refine blk_alloc ?_ _)); exact BK312.1) hkp (fun hs_ => Or.elim hs_ (fun e_ => (fun e_ => (Kd.R_ne Q321_0.1 BK312.1 (by decide)) e_) e_) (fun e_ => (fun e_ => (Kd.R_ne Q321_1.1 BK312.1 (by decide)) e_) e_))); have n9_ := Aside0.mk (blk_kept (by (with_reducible repeat (first | refine blk_drewN ?_ _ | refine blk_drew ?_ | refine blk_alloc ?_ _)); exact BK320.1) hkp (fun hs_ => Or.elim hs_ (fun e_ => (fun e_ => (Kd.R_ne Q321_0.1 BK320.1 (by decide)) e_) e_) (fun e_ => (fun e_ => (Kd.R_ne Q321_1.1 BK320.1 (by decide)) e_) e_))); have n10_ := Aside0.mk (hb); clear Q306_0; clear Q306_1; clear Q313_0; clear Q313_1; clear Q321_0; clear Q321_1; clear BK290; clear BK305; clear BK312; clear BK320; clear HB; have Q306_0 := n0_; have Q306_1 := n1_; have Q313_0 := n2_; have Q313_1 := n3_; have Q321_0 := n4_; have Q321_1 := n5_; have BK290 := n6_; have BK305 := n7_; have BK312 := n8_; have BK320 := n9_; have HB := n10_; clear n0_ n1_ n2_ n3_ n4_ n5_ n6_ n7_ n8_ n9_ n10_; (try clear hb); (try clear hkp); (try clear hy0); (try clear hy1); have hcz104_0 : w103.cell? ⟨gb320, 0, none⟩ = some (.slice Ao36 t313.length co36) := (blk_cell BK320.1 0).trans rfl; have hcz104_1 : w103.cell? ⟨gb320, 1, none⟩ = some (.slice Ao41 t316.length co41) := (blk_cell BK320.1 1).trans rfl; have hfz104_0 := blk_frozen BK320.1 0; have hfz104_1 := blk_frozen BK320.1 1) | ((with_reducible refine gate_callee (f := 29) rfl ?_); refine goesL_ (some 71) rfl rfl Try.func29 (by kernel_rfl) rfl #[.agg #[.slice Ao36 t334.length co36, .slice Ao41 t335.length co41], .int .i64 1] rfl (by (try simp only [List.map_toArray, List.map_cons, List.map_nil]); first | done | (rw [show t334.length = t313.length from (Kd.R_reads' Q321_0.1).1.symm, show t335.length = t316.length from (Kd.R_reads' Q321_1.1).1.symm] <;> rfl) | rfl | (simp only [List.length_drop, List.length_take]; rfl)) ?_; (with_reducible refine (laws_heldGloves.calls kj64 _ _ t334 _ _ t335 1 t336 _ ?side1 ?side2 ?side3 ?side4 A97.1).mono ?_); (case side1 => repeat (first | exact (Kd.R_reads' Q321_0.1).2.2 | (with_reducible refine Kd.C_alloc ?_ _) | (with_reducible refine Kd.C_drewN ?_ _) | (with_reducible refine Kd.C_drew ?_))); (case side2 => rw [show t334.length = t313.length from (Kd.R_reads' Q321_0.1).1.symm]; exact (Kd.R_reads' Q321_0.1).2.1); (case side3 => repeat (first | exact (Kd.R_reads' Q321_1.1).2.2 | (with_reducible refine Kd.C_alloc ?_ _) | (with_reducible refine Kd.C_drewN ?_ _) | (with_reducible refine Kd.C_drew ?_))); (case side4 => rw [show t335.length = t316.length from (Kd.R_reads' Q321_1.1).1.symm]; exact (Kd.R_reads' Q321_1.1).2.1); rintro e w105 ⟨rfl, hb⟩; refine ⟨_, rfl, ?_⟩; have n0_ := Aside0.mk (Kd.R_below (by (with_reducible repeat (first | apply Kd.R_alloc | apply Kd.R_drewN | apply Kd.R_drew)); exact Q306_0.1) hb); have n1_ := Aside0.mk (Kd.R_below (by (with_reducible repeat (first | apply Kd.R_alloc | apply Kd.R_drewN | apply Kd.R_drew)); exact Q306_1.1) hb); have n2_ := Aside0.mk (Kd.R_below (by (with_reducible repeat (first | apply Kd.R_alloc | apply Kd.R_drewN | apply Kd.R_drew)); exact Q313_0.1) hb); have n3_ := Aside0.mk (Kd.R_below (by (with_reducible repeat (first | apply Kd.R_alloc | apply Kd.R_drewN | apply Kd.R_drew)); exact Q313_1.1) hb); have n4_ := Aside0.mk (Kd.R_below (by (with_reducible repeat (first | apply Kd.R_alloc | apply Kd.R_drewN | apply Kd.R_drew)); exact Q321_0.1) hb); have n5_ := Aside0.mk (Kd.R_below (by (with_reducible repeat (first | apply Kd.R_alloc | apply Kd.R_drewN | apply Kd.R_drew)); exact Q321_1.1) hb); have n6_ := Aside0.mk (blk_below (g := gb290) (o := .cells #[.slice A0_0 l0_0.length c0_0, .slice A0_1 l0_1.length c0_1] 24 (0, 0)) (by (with_reducible repeat (first | refine blk_drewN ?_ _ | refine blk_drew ?_ | refine blk_alloc ?_ _)); exact BK290.1) hb); have n7_ := Aside0.mk (blk_below (g := gb305) (o := .cells #[.slice Ao22 t298.length co22, .slice Ao25 t301.length co25] 28 (0, 0)) (by (with_reducible repeat (first | refine blk_drewN ?_ _ | refine blk_drew ?_ | refine blk_alloc ?_ _)); exact BK305.1) hb); have n8_ := Aside0.mk (blk_below (g := gb312) (o := .cells #[.slice Ao29 t330.length co29, .slice Ao33 t331.length co33] 28 (0, 0)) (by (with_reducible repeat (first | refine blk_drewN ?_ _ | refine blk_drew ?_ | refine blk_alloc ?_ _)); exact BK312.1) hb); have n9_ := Aside0.mk (blk_below (g := gb320) (o := .cells #[.slice Ao36 t313.length co36, .slice Ao41 t316.length co41] 28 (0, 0)) (by (with_reducible repeat (first | refine blk_drewN ?_ _ | refine blk_drew ?_ | refine blk_alloc ?_ _)); exact BK320.1) hb); have n10_ := Aside0.mk (below_step (by repeat (first | (with_reducible first | exact HB.1 | apply below_alloc | apply pw_below_drewN | apply below_drew1 | refine below_set ?_ GE290.1 | refine below_set ?_ GE305.1 | refine below_set ?_ GE312.1 | refine below_set ?_ GE320.1) | exact HB.1)) hb); clear Q306_0; clear Q306_1; clear Q313_0; clear Q313_1; clear Q321_0; clear Q321_1; clear BK290; clear BK305; clear BK312; clear BK320; clear HB; have Q306_0 := n0_; have Q306_1 := n1_; have Q313_0 := n2_; have Q313_1 := n3_; have Q321_0 := n4_; have Q321_1 := n5_; have BK290 := n6_; have BK305 := n7_; have BK312 := n8_; have BK320 := n9_; have HB := n10_; clear n0_ n1_ n2_ n3_ n4_ n5_ n6_ n7_ n8_ n9_ n10_; (try clear hb); (try clear hb2); (try clear hk); (try clear hi)))
          go_ret
          exact ⟨by first | rfl | (simp [errW_none, errW_some] <;> rfl) | (simp [Go.IntWalk.i64_left]; done) | (simp [*, errW_none, errW_some] <;> rfl), by repeat (first | (with_reducible first | exact HB.1 | apply below_alloc | apply pw_below_drewN | apply below_drew1 | refine below_set ?_ GE290.1 | refine below_set ?_ GE305.1 | refine below_set ?_ GE312.1 | refine below_set ?_ GE320.1) | exact HB.1)⟩
         ·rw [if_neg c98] at H
          have c98b0 : decide (t336 < 0) = false := decide_eq_false c98
          clear c98
          by_cases c106 : t336 = t333
          ·rw [if_pos c106] at H
           have c106b0 : (t336 == t333) = true := beq_iff_eq.mpr c106
           have c106b1 : (t336 != t333) = false := bne_eq_false_iff_eq.mpr c106
           clear c106
           replace H := Option.bind_eq_some_iff.mp H
           obtain ⟨⟨t337, t340⟩, A1070, H⟩ := H
           replace H : ((impl_WorstGloves.f kj64 t337 t340 a1).bind fun bt343 => ((laws_eqGloves.f kj64 bt343.1 bt343.2.1 t298 t301).bind fun t351 => (if t351 = true then (laws_FnExactWorstGloves.j2 kj64 t333 (bt343.2.2 != t304) t334 t335) else (laws_FnExactWorstGloves.j2 kj64 t333 true t334 t335)))) = some r := H
           have A107 := Aside0.mk A1070
           clear A1070
           replace H := Option.bind_eq_some_iff.mp H
           obtain ⟨⟨t343, t346, t349⟩, A1080, H⟩ := H
           replace H : ((laws_eqGloves.f kj64 t343 t346 t298 t301).bind fun t351 => (if t351 = true then (laws_FnExactWorstGloves.j2 kj64 t333 (t349 != t304) t334 t335) else (laws_FnExactWorstGloves.j2 kj64 t333 true t334 t335))) = some r := H
           have A108 := Aside0.mk A1080
           clear A1080
           have HC109 := Aside0.mk H
           clear H
           have hnb110 := NB320_290.1
           have hnc110 := NB290_320.1
           have hnb111 := NB320_305.1
           have hnc111 := NB305_320.1
           have hnb112 := NB320_312.1
           have hnc112 := NB312_320.1
           have hcz113_0 : wc.cell? ⟨gb320, 0, none⟩ = some (.slice Ao36 t313.length co36) := (blk_cell BK320.1 0).trans rfl
           have hcz113_1 : wc.cell? ⟨gb320, 1, none⟩ = some (.slice Ao41 t316.length co41) := (blk_cell BK320.1 1).trans rfl
           have hfz113_0 := blk_frozen BK320.1 0
           have hfz113_1 := blk_frozen BK320.1 1
           go_upto_region 25 with (first | ((with_reducible refine gate_callee (f := 28) rfl ?_); refine goesL_ (some 68) rfl rfl Try.func28 (by kernel_rfl) rfl #[.agg #[.slice Ao36 t313.length co36, .slice Ao41 t316.length co41], .int .i64 1] rfl (by (try simp only [List.map_toArray, List.map_cons, List.map_nil]); first | done | rfl | (simp only [List.length_drop, List.length_take]; rfl)) ?_; (with_reducible refine (laws_markGloves.calls kj64 (fun k_ => some k_ = (.slice Ao36 t313.length co36 : Value).ownBlock) (.slice Ao36 t313.length co36) t313 (fun k_ => some k_ = (.slice Ao41 t316.length co41 : Value).ownBlock) (.slice Ao41 t316.length co41) t316 1 t333 t334 t335 w _ ?side1 ?side2 ?side3 ?side4 ?side5 A96.1).mono ?_); (case side1 => repeat (first | (with_reducible first | exact HB.1 | apply below_alloc | apply pw_below_drewN | apply below_drew1 | refine below_set ?_ GE290.1 | refine below_set ?_ GE305.1 | refine below_set ?_ GE312.1 | refine below_set ?_ GE320.1) | exact HB.1)); (case side2 => exact Kd.R_tight rfl Q321_0.1); (case side3 => exact fun k_ e_ => (Q321_0.1.1 k_ e_.symm).2.2.2.2); (case side4 => exact Kd.R_tight rfl Q321_1.1); (case side5 => exact fun k_ e_ => (Q321_1.1.1 k_ e_.symm).2.2.2.2); rintro e w114 ⟨rfl, hy0, hy1, hb, hkp⟩; refine ⟨_, rfl, ?_⟩; have n0_ := Aside0.mk (Kd.R_mono (ok' := fun k_ => some k_ ≠ (.slice Ao25 t301.length co25 : Value).ownBlock ∧ some k_ ≠ (.slice Ao29 t330.length co29 : Value).ownBlock ∧ some k_ ≠ (.slice Ao33 t331.length co33 : Value).ownBlock ∧ some k_ ≠ (.slice Ao36 t313.length co36 : Value).ownBlock ∧ some k_ ≠ (.slice Ao41 t316.length co41 : Value).ownBlock) (Kd.R_keptB (Q306_0.1) hkp (fun k_ hk_ hs_ => Or.elim hs_ (fun e_ => (hk_.2.2.2.1) e_) (fun e_ => (hk_.2.2.2.2) e_))) (fun k_ hk_ => ⟨hk_.1.1, hk_.1.2.1, hk_.1.2.2.1, hk_.1.2.2.2.1, hk_.1.2.2.2.2⟩)); have n1_ := Aside0.mk (Kd.R_mono (ok' := fun k_ => some k_ ≠ (.slice Ao22 t298.length co22 : Value).ownBlock ∧ some k_ ≠ (.slice Ao29 t330.length co29 : Value).ownBlock ∧ some k_ ≠ (.slice Ao33 t331.length co33 : Value).ownBlock ∧ some k_ ≠ (.slice Ao36 t313.length co36 : Value).ownBlock ∧ some k_ ≠ (.slice Ao41 t316.length co41 : Value).ownBlock) (Kd.R_keptB (Q306_1.1) hkp (fun k_ hk_ hs_ => Or.elim hs_ (fun e_ => (hk_.2.2.2.1) e_) (fun e_ => (hk_.2.2.2.2) e_))) (fun k_ hk_ => ⟨hk_.1.1, hk_.1.2.1, hk_.1.2.2.1, hk_.1.2.2.2.1, hk_.1.2.2.2.2⟩)); have n2_ := Aside0.mk (Kd.R_mono (ok' := fun k_ => some k_ ≠ (.slice Ao22 t298.length co22 : Value).ownBlock ∧ some k_ ≠ (.slice Ao25 t301.length co25 : Value).ownBlock ∧ some k_ ≠ (.slice Ao33 t331.length co33 : Value).ownBlock ∧ some k_ ≠ (.slice Ao36 t313.length co36 : Value).ownBlock ∧ some k_ ≠ (.slice Ao41 t316.length co41 : Value).ownBlock) (Kd.R_keptB (Q313_0.1) hkp (fun k_ hk_ hs_ => Or.elim hs_ (fun e_ => (hk_.2.2.2.1) e_) (fun e_ => (hk_.2.2.2.2) e_))) (fun k_ hk_ => ⟨hk_.1.1, hk_.1.2.1, hk_.1.2.2.1, hk_.1.2.2.2.1, hk_.1.2.2.2.2⟩)); have n3_ := Aside0.mk (Kd.R_mono (ok' := fun k_ => some k_ ≠ (.slice Ao22 t298.length co22 : Value).ownBlock ∧ some k_ ≠ (.slice Ao25 t301.length co25 : Value).ownBlock ∧ some k_ ≠ (.slice Ao29 t330.length co29 : Value).ownBlock ∧ some k_ ≠ (.slice Ao36 t313.length co36 : Value).ownBlock ∧ some k_ ≠ (.slice Ao41 t316.length co41 : Value).ownBlock) (Kd.R_keptB (Q313_1.1) hkp (fun k_ hk_ hs_ => Or.elim hs_ (fun e_ => (hk_.2.2.2.1) e_) (fun e_ => (hk_.2.2.2.2) e_))) (fun k_ hk_ => ⟨hk_.1.1, hk_.1.2.1, hk_.1.2.2.1, hk_.1.2.2.2.1, hk_.1.2.2.2.2⟩)); have n4_ := Aside0.mk (Kd.R_reok rfl hy0 (fun k_ e_ => Q321_0.1.1 k_ e_)); have n5_ := Aside0.mk (Kd.R_reok rfl hy1 (fun k_ e_ => Q321_1.1.1 k_ e_)); have n6_ := Aside0.mk (blk_kept (by (with_reducible repeat (first | refine blk_drewN ?_ _ | refine blk_drew ?_ | refine blk_alloc ?_ _)); exact BK290.1) hkp (fun hs_ => Or.elim hs_ (fun e_ => (fun e_ => (Kd.R_ne Q321_0.1 BK290.1 (by decide)) e_) e_) (fun e_ => (fun e_ => (Kd.R_ne Q321_1.1 BK290.1 (by decide)) e_) e_))); have n7_ := Aside0.mk (blk_kept (by (with_reducible repeat (first | refine blk_drewN ?_ _ | refine blk_drew ?_ | refine blk_alloc ?_ _)); exact BK305.1) hkp (fun hs_ => Or.elim hs_ (fun e_ => (fun e_ => (Kd.R_ne Q321_0.1 BK305.1 (by decide)) e_) e_) (fun e_ => (fun e_ => (Kd.R_ne Q321_1.1 BK305.1 (by decide)) e_) e_))); have n8_ := Aside0.mk (blk_kept (by (with_reducible repeat (first | refine blk_drewN ?_ _ | refine blk_drew ?_ | refine blk_alloc ?_ _)); exact BK312.1) hkp (fun hs_ => Or.elim hs_ (fun e_ => (fun e_ => (Kd.R_ne Q321_0.1 BK312.1 (by decide)) e_) e_) (fun e_ => (fun e_ => (Kd.R_ne Q321_1.1 BK312.1 (by decide)) e_) e_))); have n9_ := Aside0.mk (blk_kept (by (with_reducible repeat (first | refine blk_drewN ?_ _ | refine blk_drew ?_ | refine blk_alloc ?_ _)); exact BK320.1) hkp (fun hs_ => Or.elim hs_ (fun e_ => (fun e_ => (Kd.R_ne Q321_0.1 BK320.1 (by decide)) e_) e_) (fun e_ => (fun e_ => (Kd.R_ne Q321_1.1 BK320.1 (by decide)) e_) e_))); have n10_ := Aside0.mk (hb); clear Q306_0; clear Q306_1; clear Q313_0; clear Q313_1; clear Q321_0; clear Q321_1; clear BK290; clear BK305; clear BK312; clear BK320; clear HB; have Q306_0 := n0_; have Q306_1 := n1_; have Q313_0 := n2_; have Q313_1 := n3_; have Q321_0 := n4_; have Q321_1 := n5_; have BK290 := n6_; have BK305 := n7_; have BK312 := n8_; have BK320 := n9_; have HB := n10_; clear n0_ n1_ n2_ n3_ n4_ n5_ n6_ n7_ n8_ n9_ n10_; (try clear hb); (try clear hkp); (try clear hy0); (try clear hy1); have hcz115_0 : w114.cell? ⟨gb320, 0, none⟩ = some (.slice Ao36 t313.length co36) := (blk_cell BK320.1 0).trans rfl; have hcz115_1 : w114.cell? ⟨gb320, 1, none⟩ = some (.slice Ao41 t316.length co41) := (blk_cell BK320.1 1).trans rfl; have hfz115_0 := blk_frozen BK320.1 0; have hfz115_1 := blk_frozen BK320.1 1) | ((with_reducible refine gate_callee (f := 29) rfl ?_); refine goesL_ (some 71) rfl rfl Try.func29 (by kernel_rfl) rfl #[.agg #[.slice Ao36 t334.length co36, .slice Ao41 t335.length co41], .int .i64 1] rfl (by (try simp only [List.map_toArray, List.map_cons, List.map_nil]); first | done | (rw [show t334.length = t313.length from (Kd.R_reads' Q321_0.1).1.symm, show t335.length = t316.length from (Kd.R_reads' Q321_1.1).1.symm] <;> rfl) | rfl | (simp only [List.length_drop, List.length_take]; rfl)) ?_; (with_reducible refine (laws_heldGloves.calls kj64 _ _ t334 _ _ t335 1 t336 _ ?side1 ?side2 ?side3 ?side4 A97.1).mono ?_); (case side1 => repeat (first | exact (Kd.R_reads' Q321_0.1).2.2 | (with_reducible refine Kd.C_alloc ?_ _) | (with_reducible refine Kd.C_drewN ?_ _) | (with_reducible refine Kd.C_drew ?_))); (case side2 => rw [show t334.length = t313.length from (Kd.R_reads' Q321_0.1).1.symm]; exact (Kd.R_reads' Q321_0.1).2.1); (case side3 => repeat (first | exact (Kd.R_reads' Q321_1.1).2.2 | (with_reducible refine Kd.C_alloc ?_ _) | (with_reducible refine Kd.C_drewN ?_ _) | (with_reducible refine Kd.C_drew ?_))); (case side4 => rw [show t335.length = t316.length from (Kd.R_reads' Q321_1.1).1.symm]; exact (Kd.R_reads' Q321_1.1).2.1); rintro e w116 ⟨rfl, hb⟩; refine ⟨_, rfl, ?_⟩; have n0_ := Aside0.mk (Kd.R_below (by (with_reducible repeat (first | apply Kd.R_alloc | apply Kd.R_drewN | apply Kd.R_drew)); exact Q306_0.1) hb); have n1_ := Aside0.mk (Kd.R_below (by (with_reducible repeat (first | apply Kd.R_alloc | apply Kd.R_drewN | apply Kd.R_drew)); exact Q306_1.1) hb); have n2_ := Aside0.mk (Kd.R_below (by (with_reducible repeat (first | apply Kd.R_alloc | apply Kd.R_drewN | apply Kd.R_drew)); exact Q313_0.1) hb); have n3_ := Aside0.mk (Kd.R_below (by (with_reducible repeat (first | apply Kd.R_alloc | apply Kd.R_drewN | apply Kd.R_drew)); exact Q313_1.1) hb); have n4_ := Aside0.mk (Kd.R_below (by (with_reducible repeat (first | apply Kd.R_alloc | apply Kd.R_drewN | apply Kd.R_drew)); exact Q321_0.1) hb); have n5_ := Aside0.mk (Kd.R_below (by (with_reducible repeat (first | apply Kd.R_alloc | apply Kd.R_drewN | apply Kd.R_drew)); exact Q321_1.1) hb); have n6_ := Aside0.mk (blk_below (g := gb290) (o := .cells #[.slice A0_0 l0_0.length c0_0, .slice A0_1 l0_1.length c0_1] 24 (0, 0)) (by (with_reducible repeat (first | refine blk_drewN ?_ _ | refine blk_drew ?_ | refine blk_alloc ?_ _)); exact BK290.1) hb); have n7_ := Aside0.mk (blk_below (g := gb305) (o := .cells #[.slice Ao22 t298.length co22, .slice Ao25 t301.length co25] 28 (0, 0)) (by (with_reducible repeat (first | refine blk_drewN ?_ _ | refine blk_drew ?_ | refine blk_alloc ?_ _)); exact BK305.1) hb); have n8_ := Aside0.mk (blk_below (g := gb312) (o := .cells #[.slice Ao29 t330.length co29, .slice Ao33 t331.length co33] 28 (0, 0)) (by (with_reducible repeat (first | refine blk_drewN ?_ _ | refine blk_drew ?_ | refine blk_alloc ?_ _)); exact BK312.1) hb); have n9_ := Aside0.mk (blk_below (g := gb320) (o := .cells #[.slice Ao36 t313.length co36, .slice Ao41 t316.length co41] 28 (0, 0)) (by (with_reducible repeat (first | refine blk_drewN ?_ _ | refine blk_drew ?_ | refine blk_alloc ?_ _)); exact BK320.1) hb); have n10_ := Aside0.mk (below_step (by repeat (first | (with_reducible first | exact HB.1 | apply below_alloc | apply pw_below_drewN | apply below_drew1 | refine below_set ?_ GE290.1 | refine below_set ?_ GE305.1 | refine below_set ?_ GE312.1 | refine below_set ?_ GE320.1) | exact HB.1)) hb); clear Q306_0; clear Q306_1; clear Q313_0; clear Q313_1; clear Q321_0; clear Q321_1; clear BK290; clear BK305; clear BK312; clear BK320; clear HB; have Q306_0 := n0_; have Q306_1 := n1_; have Q313_0 := n2_; have Q313_1 := n3_; have Q321_0 := n4_; have Q321_1 := n5_; have BK290 := n6_; have BK305 := n7_; have BK312 := n8_; have BK320 := n9_; have HB := n10_; clear n0_ n1_ n2_ n3_ n4_ n5_ n6_ n7_ n8_ n9_ n10_; (try clear hb); (try clear hb2); (try clear hk); (try clear hi); have hnb117 := NB290_305.1; have hnc117 := NB305_290.1; have hnb118 := NB290_312.1; have hnc118 := NB312_290.1; have hcz119_0 : w116.cell? ⟨gb290, 0, none⟩ = some (.slice A0_0 l0_0.length c0_0) := (blk_cell BK290.1 0).trans rfl; have hcz119_1 : w116.cell? ⟨gb290, 1, none⟩ = some (.slice A0_1 l0_1.length c0_1) := (blk_cell BK290.1 1).trans rfl; have hfz119_0 := blk_frozen BK290.1 0; have hfz119_1 := blk_frozen BK290.1 1) | ((with_reducible refine gate_callee (f := 17) rfl ?_); refine goesL_ (some 79) rfl rfl Try.func17 (by kernel_rfl) rfl #[.agg #[.slice A0_0 l0_0.length c0_0, .slice A0_1 l0_1.length c0_1]] rfl (by (try simp only [List.map_toArray, List.map_cons, List.map_nil]); first | done | rfl | (simp only [List.length_drop, List.length_take]; rfl)) ?_; (with_reducible refine (laws_toGloves.calls kj64 _ _ l0_0 _ _ l0_1 t337 t340 _ ?side1 ?side2 ?side3 ?side4 A107.1).mono ?_); (case side1 => repeat (first | exact (Kd.C_below HR0_0.1 HB.1) | (with_reducible refine Kd.C_alloc ?_ _) | (with_reducible refine Kd.C_drewN ?_ _) | (with_reducible refine Kd.C_drew ?_))); (case side2 => exact HC0_0.1); (case side3 => repeat (first | exact (Kd.C_below HR0_1.1 HB.1) | (with_reducible refine Kd.C_alloc ?_ _) | (with_reducible refine Kd.C_drewN ?_ _) | (with_reducible refine Kd.C_drew ?_))); (case side4 => exact HC0_1.1); rintro e w120 ⟨v338, v341, rfl, ho0, ho1, hb⟩; refine ⟨_, rfl, ?_⟩; have n0_ := Aside0.mk (Kd.R_mono (Kd.R_told (Kd.R_told (Kd.R_old (by (with_reducible repeat (first | apply Kd.R_alloc | apply Kd.R_drewN | apply Kd.R_drew)); exact Q306_0.1) hb) (Kd.R_base ho0)) (Kd.R_base ho1)) (fun _ h_ => h_.1)); have n1_ := Aside0.mk (Kd.R_mono (Kd.R_told (Kd.R_told (Kd.R_old (by (with_reducible repeat (first | apply Kd.R_alloc | apply Kd.R_drewN | apply Kd.R_drew)); exact Q306_1.1) hb) (Kd.R_base ho0)) (Kd.R_base ho1)) (fun _ h_ => h_.1)); have n2_ := Aside0.mk (Kd.R_mono (Kd.R_told (Kd.R_told (Kd.R_old (by (with_reducible repeat (first | apply Kd.R_alloc | apply Kd.R_drewN | apply Kd.R_drew)); exact Q313_0.1) hb) (Kd.R_base ho0)) (Kd.R_base ho1)) (fun _ h_ => h_.1)); have n3_ := Aside0.mk (Kd.R_mono (Kd.R_told (Kd.R_told (Kd.R_old (by (with_reducible repeat (first | apply Kd.R_alloc | apply Kd.R_drewN | apply Kd.R_drew)); exact Q313_1.1) hb) (Kd.R_base ho0)) (Kd.R_base ho1)) (fun _ h_ => h_.1)); have n4_ := Aside0.mk (Kd.R_mono (Kd.R_told (Kd.R_told (Kd.R_old (by (with_reducible repeat (first | apply Kd.R_alloc | apply Kd.R_drewN | apply Kd.R_drew)); exact Q321_0.1) hb) (Kd.R_base ho0)) (Kd.R_base ho1)) (fun _ h_ => h_.1)); have n5_ := Aside0.mk (Kd.R_mono (Kd.R_told (Kd.R_told (Kd.R_old (by (with_reducible repeat (first | apply Kd.R_alloc | apply Kd.R_drewN | apply Kd.R_drew)); exact Q321_1.1) hb) (Kd.R_base ho0)) (Kd.R_base ho1)) (fun _ h_ => h_.1)); have n6_ := Aside0.mk (Kd.R_lower (Kd.R_new' (Kd.R_new' (Kd.R_new' (Kd.R_new' (Kd.R_new' (Kd.R_new' ho0 (Kd.R_lt (by (with_reducible repeat (first | apply Kd.R_alloc | apply Kd.R_drewN | apply Kd.R_drew)); exact Q306_0.1))) (Kd.R_lt (by (with_reducible repeat (first | apply Kd.R_alloc | apply Kd.R_drewN | apply Kd.R_drew)); exact Q306_1.1))) (Kd.R_lt (by (with_reducible repeat (first | apply Kd.R_alloc | apply Kd.R_drewN | apply Kd.R_drew)); exact Q313_0.1))) (Kd.R_lt (by (with_reducible repeat (first | apply Kd.R_alloc | apply Kd.R_drewN | apply Kd.R_drew)); exact Q313_1.1))) (Kd.R_lt (by (with_reducible repeat (first | apply Kd.R_alloc | apply Kd.R_drewN | apply Kd.R_drew)); exact Q321_0.1))) (Kd.R_lt (by (with_reducible repeat (first | apply Kd.R_alloc | apply Kd.R_drewN | apply Kd.R_drew)); exact Q321_1.1))) (below_size (by repeat (first | (with_reducible first | exact HB.1 | apply below_alloc | apply pw_below_drewN | apply below_drew1 | refine below_set ?_ GE290.1 | refine below_set ?_ GE305.1 | refine below_set ?_ GE312.1 | refine below_set ?_ GE320.1) | exact HB.1)))); have n7_ := Aside0.mk (Kd.R_lower (Kd.R_new' (Kd.R_new' (Kd.R_new' (Kd.R_new' (Kd.R_new' (Kd.R_new' ho1 (Kd.R_lt (by (with_reducible repeat (first | apply Kd.R_alloc | apply Kd.R_drewN | apply Kd.R_drew)); exact Q306_0.1))) (Kd.R_lt (by (with_reducible repeat (first | apply Kd.R_alloc | apply Kd.R_drewN | apply Kd.R_drew)); exact Q306_1.1))) (Kd.R_lt (by (with_reducible repeat (first | apply Kd.R_alloc | apply Kd.R_drewN | apply Kd.R_drew)); exact Q313_0.1))) (Kd.R_lt (by (with_reducible repeat (first | apply Kd.R_alloc | apply Kd.R_drewN | apply Kd.R_drew)); exact Q313_1.1))) (Kd.R_lt (by (with_reducible repeat (first | apply Kd.R_alloc | apply Kd.R_drewN | apply Kd.R_drew)); exact Q321_0.1))) (Kd.R_lt (by (with_reducible repeat (first | apply Kd.R_alloc | apply Kd.R_drewN | apply Kd.R_drew)); exact Q321_1.1))) (below_size (by repeat (first | (with_reducible first | exact HB.1 | apply below_alloc | apply pw_below_drewN | apply below_drew1 | refine below_set ?_ GE290.1 | refine below_set ?_ GE305.1 | refine below_set ?_ GE312.1 | refine below_set ?_ GE320.1) | exact HB.1)))); have n8_ := Aside0.mk (blk_below (g := gb290) (o := .cells #[.slice A0_0 l0_0.length c0_0, .slice A0_1 l0_1.length c0_1] 24 (0, 0)) (by (with_reducible repeat (first | refine blk_drewN ?_ _ | refine blk_drew ?_ | refine blk_alloc ?_ _)); exact BK290.1) hb); have n9_ := Aside0.mk (blk_below (g := gb305) (o := .cells #[.slice Ao22 t298.length co22, .slice Ao25 t301.length co25] 28 (0, 0)) (by (with_reducible repeat (first | refine blk_drewN ?_ _ | refine blk_drew ?_ | refine blk_alloc ?_ _)); exact BK305.1) hb); have n10_ := Aside0.mk (blk_below (g := gb312) (o := .cells #[.slice Ao29 t330.length co29, .slice Ao33 t331.length co33] 28 (0, 0)) (by (with_reducible repeat (first | refine blk_drewN ?_ _ | refine blk_drew ?_ | refine blk_alloc ?_ _)); exact BK312.1) hb); have n11_ := Aside0.mk (blk_below (g := gb320) (o := .cells #[.slice Ao36 t313.length co36, .slice Ao41 t316.length co41] 28 (0, 0)) (by (with_reducible repeat (first | refine blk_drewN ?_ _ | refine blk_drew ?_ | refine blk_alloc ?_ _)); exact BK320.1) hb); have n12_ := Aside0.mk (below_step (by repeat (first | (with_reducible first | exact HB.1 | apply below_alloc | apply pw_below_drewN | apply below_drew1 | refine below_set ?_ GE290.1 | refine below_set ?_ GE305.1 | refine below_set ?_ GE312.1 | refine below_set ?_ GE320.1) | exact HB.1)) hb); clear Q306_0; clear Q306_1; clear Q313_0; clear Q313_1; clear Q321_0; clear Q321_1; clear BK290; clear BK305; clear BK312; clear BK320; clear HB; have Q306_0 := n0_; have Q306_1 := n1_; have Q313_0 := n2_; have Q313_1 := n3_; have Q321_0 := n4_; have Q321_1 := n5_; have HO339 := n6_; have HO342 := n7_; have BK290 := n8_; have BK305 := n9_; have BK312 := n10_; have BK320 := n11_; have HB := n12_; clear n0_ n1_ n2_ n3_ n4_ n5_ n6_ n7_ n8_ n9_ n10_ n11_ n12_; (try clear hb); (try clear hb2); (try clear hk); (try clear hi); (try clear ho0); (try clear ho1); obtain ⟨Ao121, co121, eo121⟩ := Kd.R_slice HO339.1; subst eo121; obtain ⟨Ao122, co122, eo122⟩ := Kd.R_slice HO342.1; subst eo122) | ((with_reducible refine gate_callee (f := 43) rfl ?_); refine goesL_ (some 81) rfl rfl Try.func43 (by kernel_rfl) rfl #[.agg #[.slice Ao121 t337.length co121, .slice Ao122 t340.length co122], .int .i64 a1] rfl (by (try simp only [List.map_toArray, List.map_cons, List.map_nil]); first | done | rfl | (simp only [List.length_drop, List.length_take]; rfl)) ?_; (with_reducible refine (impl_WorstGloves.calls kj64 _ _ t337 _ _ t340 a1 t343 t346 t349 _ ?side1 ?side2 ?side3 ?side4 A108.1).mono ?_); (case side1 => repeat (first | exact (Kd.R_reads' HO339.1).2.2 | (with_reducible refine Kd.C_alloc ?_ _) | (with_reducible refine Kd.C_drewN ?_ _) | (with_reducible refine Kd.C_drew ?_))); (case side2 => exact (Kd.R_reads' HO339.1).2.1); (case side3 => repeat (first | exact (Kd.R_reads' HO342.1).2.2 | (with_reducible refine Kd.C_alloc ?_ _) | (with_reducible refine Kd.C_drewN ?_ _) | (with_reducible refine Kd.C_drew ?_))); (case side4 => exact (Kd.R_reads' HO342.1).2.1); rintro e w123 ⟨v344, v347, rfl, ho0, ho1, hb⟩; refine ⟨_, rfl, ?_⟩; have n0_ := Aside0.mk (Kd.R_mono (Kd.R_told (Kd.R_told (Kd.R_old (by (with_reducible repeat (first | apply Kd.R_alloc | apply Kd.R_drewN | apply Kd.R_drew)); exact Q306_0.1) hb) (Kd.R_base ho0)) (Kd.R_base ho1)) (fun _ h_ => h_.1)); have n1_ := Aside0.mk (Kd.R_mono (Kd.R_told (Kd.R_told (Kd.R_old (by (with_reducible repeat (first | apply Kd.R_alloc | apply Kd.R_drewN | apply Kd.R_drew)); exact Q306_1.1) hb) (Kd.R_base ho0)) (Kd.R_base ho1)) (fun _ h_ => h_.1)); have n2_ := Aside0.mk (Kd.R_mono (Kd.R_told (Kd.R_told (Kd.R_old (by (with_reducible repeat (first | apply Kd.R_alloc | apply Kd.R_drewN | apply Kd.R_drew)); exact Q313_0.1) hb) (Kd.R_base ho0)) (Kd.R_base ho1)) (fun _ h_ => h_.1)); have n3_ := Aside0.mk (Kd.R_mono (Kd.R_told (Kd.R_told (Kd.R_old (by (with_reducible repeat (first | apply Kd.R_alloc | apply Kd.R_drewN | apply Kd.R_drew)); exact Q313_1.1) hb) (Kd.R_base ho0)) (Kd.R_base ho1)) (fun _ h_ => h_.1)); have n4_ := Aside0.mk (Kd.R_mono (Kd.R_told (Kd.R_told (Kd.R_old (by (with_reducible repeat (first | apply Kd.R_alloc | apply Kd.R_drewN | apply Kd.R_drew)); exact Q321_0.1) hb) (Kd.R_base ho0)) (Kd.R_base ho1)) (fun _ h_ => h_.1)); have n5_ := Aside0.mk (Kd.R_mono (Kd.R_told (Kd.R_told (Kd.R_old (by (with_reducible repeat (first | apply Kd.R_alloc | apply Kd.R_drewN | apply Kd.R_drew)); exact Q321_1.1) hb) (Kd.R_base ho0)) (Kd.R_base ho1)) (fun _ h_ => h_.1)); have n6_ := Aside0.mk (Kd.R_mono (Kd.R_told (Kd.R_told (Kd.R_old (by (with_reducible repeat (first | apply Kd.R_alloc | apply Kd.R_drewN | apply Kd.R_drew)); exact HO339.1) hb) (Kd.R_base ho0)) (Kd.R_base ho1)) (fun _ h_ => h_.1)); have n7_ := Aside0.mk (Kd.R_mono (Kd.R_told (Kd.R_told (Kd.R_old (by (with_reducible repeat (first | apply Kd.R_alloc | apply Kd.R_drewN | apply Kd.R_drew)); exact HO342.1) hb) (Kd.R_base ho0)) (Kd.R_base ho1)) (fun _ h_ => h_.1)); have n8_ := Aside0.mk (Kd.R_lower (Kd.R_new' (Kd.R_new' (Kd.R_new' (Kd.R_new' (Kd.R_new' (Kd.R_new' (Kd.R_new' (Kd.R_new' ho0 (Kd.R_lt (by (with_reducible repeat (first | apply Kd.R_alloc | apply Kd.R_drewN | apply Kd.R_drew)); exact Q306_0.1))) (Kd.R_lt (by (with_reducible repeat (first | apply Kd.R_alloc | apply Kd.R_drewN | apply Kd.R_drew)); exact Q306_1.1))) (Kd.R_lt (by (with_reducible repeat (first | apply Kd.R_alloc | apply Kd.R_drewN | apply Kd.R_drew)); exact Q313_0.1))) (Kd.R_lt (by (with_reducible repeat (first | apply Kd.R_alloc | apply Kd.R_drewN | apply Kd.R_drew)); exact Q313_1.1))) (Kd.R_lt (by (with_reducible repeat (first | apply Kd.R_alloc | apply Kd.R_drewN | apply Kd.R_drew)); exact Q321_0.1))) (Kd.R_lt (by (with_reducible repeat (first | apply Kd.R_alloc | apply Kd.R_drewN | apply Kd.R_drew)); exact Q321_1.1))) (Kd.R_lt (by (with_reducible repeat (first | apply Kd.R_alloc | apply Kd.R_drewN | apply Kd.R_drew)); exact HO339.1))) (Kd.R_lt (by (with_reducible repeat (first | apply Kd.R_alloc | apply Kd.R_drewN | apply Kd.R_drew)); exact HO342.1))) (below_size (by repeat (first | (with_reducible first | exact HB.1 | apply below_alloc | apply pw_below_drewN | apply below_drew1 | refine below_set ?_ GE290.1 | refine below_set ?_ GE305.1 | refine below_set ?_ GE312.1 | refine below_set ?_ GE320.1) | exact HB.1)))); have n9_ := Aside0.mk (Kd.R_lower (Kd.R_new' (Kd.R_new' (Kd.R_new' (Kd.R_new' (Kd.R_new' (Kd.R_new' (Kd.R_new' (Kd.R_new' ho1 (Kd.R_lt (by (with_reducible repeat (first | apply Kd.R_alloc | apply Kd.R_drewN | apply Kd.R_drew)); exact Q306_0.1))) (Kd.R_lt (by (with_reducible repeat (first | apply Kd.R_alloc | apply Kd.R_drewN | apply Kd.R_drew)); exact Q306_1.1))) (Kd.R_lt (by (with_reducible repeat (first | apply Kd.R_alloc | apply Kd.R_drewN | apply Kd.R_drew)); exact Q313_0.1))) (Kd.R_lt (by (with_reducible repeat (first | apply Kd.R_alloc | apply Kd.R_drewN | apply Kd.R_drew)); exact Q313_1.1))) (Kd.R_lt (by (with_reducible repeat (first | apply Kd.R_alloc | apply Kd.R_drewN | apply Kd.R_drew)); exact Q321_0.1))) (Kd.R_lt (by (with_reducible repeat (first | apply Kd.R_alloc | apply Kd.R_drewN | apply Kd.R_drew)); exact Q321_1.1))) (Kd.R_lt (by (with_reducible repeat (first | apply Kd.R_alloc | apply Kd.R_drewN | apply Kd.R_drew)); exact HO339.1))) (Kd.R_lt (by (with_reducible repeat (first | apply Kd.R_alloc | apply Kd.R_drewN | apply Kd.R_drew)); exact HO342.1))) (below_size (by repeat (first | (with_reducible first | exact HB.1 | apply below_alloc | apply pw_below_drewN | apply below_drew1 | refine below_set ?_ GE290.1 | refine below_set ?_ GE305.1 | refine below_set ?_ GE312.1 | refine below_set ?_ GE320.1) | exact HB.1)))); have n10_ := Aside0.mk (blk_below (g := gb290) (o := .cells #[.slice A0_0 l0_0.length c0_0, .slice A0_1 l0_1.length c0_1] 24 (0, 0)) (by (with_reducible repeat (first | refine blk_drewN ?_ _ | refine blk_drew ?_ | refine blk_alloc ?_ _)); exact BK290.1) hb); have n11_ := Aside0.mk (blk_below (g := gb305) (o := .cells #[.slice Ao22 t298.length co22, .slice Ao25 t301.length co25] 28 (0, 0)) (by (with_reducible repeat (first | refine blk_drewN ?_ _ | refine blk_drew ?_ | refine blk_alloc ?_ _)); exact BK305.1) hb); have n12_ := Aside0.mk (blk_below (g := gb312) (o := .cells #[.slice Ao29 t330.length co29, .slice Ao33 t331.length co33] 28 (0, 0)) (by (with_reducible repeat (first | refine blk_drewN ?_ _ | refine blk_drew ?_ | refine blk_alloc ?_ _)); exact BK312.1) hb); have n13_ := Aside0.mk (blk_below (g := gb320) (o := .cells #[.slice Ao36 t313.length co36, .slice Ao41 t316.length co41] 28 (0, 0)) (by (with_reducible repeat (first | refine blk_drewN ?_ _ | refine blk_drew ?_ | refine blk_alloc ?_ _)); exact BK320.1) hb); have n14_ := Aside0.mk (below_step (by repeat (first | (with_reducible first | exact HB.1 | apply below_alloc | apply pw_below_drewN | apply below_drew1 | refine below_set ?_ GE290.1 | refine below_set ?_ GE305.1 | refine below_set ?_ GE312.1 | refine below_set ?_ GE320.1) | exact HB.1)) hb); clear Q306_0; clear Q306_1; clear Q313_0; clear Q313_1; clear Q321_0; clear Q321_1; clear HO339; clear HO342; clear BK290; clear BK305; clear BK312; clear BK320; clear HB; have Q306_0 := n0_; have Q306_1 := n1_; have Q313_0 := n2_; have Q313_1 := n3_; have Q321_0 := n4_; have Q321_1 := n5_; have HO339 := n6_; have HO342 := n7_; have HO345 := n8_; have HO348 := n9_; have BK290 := n10_; have BK305 := n11_; have BK312 := n12_; have BK320 := n13_; have HB := n14_; clear n0_ n1_ n2_ n3_ n4_ n5_ n6_ n7_ n8_ n9_ n10_ n11_ n12_ n13_ n14_; (try clear hb); (try clear hb2); (try clear hk); (try clear hi); (try clear ho0); (try clear ho1)) | ((with_reducible refine gate_dst (N := 14) rfl ?_); refine box_event ?hg (N := 14) ?hd (cs := #[.slice none 0 0, .slice none 0 0]) (t := 28) ?hr ?_; (case hd => rfl); (case hg => rfl); (case hr => first | (go_simp; done) | (go_simp; rfl)); intro gb350 hg w124 hbox hb; have n0_ := Aside0.mk (Kd.R_below (by (with_reducible repeat (first | apply Kd.R_alloc | apply Kd.R_drewN | apply Kd.R_drew)); exact Q306_0.1) hb); have n1_ := Aside0.mk (Kd.R_below (by (with_reducible repeat (first | apply Kd.R_alloc | apply Kd.R_drewN | apply Kd.R_drew)); exact Q306_1.1) hb); have n2_ := Aside0.mk (Kd.R_below (by (with_reducible repeat (first | apply Kd.R_alloc | apply Kd.R_drewN | apply Kd.R_drew)); exact Q313_0.1) hb); have n3_ := Aside0.mk (Kd.R_below (by (with_reducible repeat (first | apply Kd.R_alloc | apply Kd.R_drewN | apply Kd.R_drew)); exact Q313_1.1) hb); have n4_ := Aside0.mk (Kd.R_below (by (with_reducible repeat (first | apply Kd.R_alloc | apply Kd.R_drewN | apply Kd.R_drew)); exact Q321_0.1) hb); have n5_ := Aside0.mk (Kd.R_below (by (with_reducible repeat (first | apply Kd.R_alloc | apply Kd.R_drewN | apply Kd.R_drew)); exact Q321_1.1) hb); have n6_ := Aside0.mk (Kd.R_below (by (with_reducible repeat (first | apply Kd.R_alloc | apply Kd.R_drewN | apply Kd.R_drew)); exact HO339.1) hb); have n7_ := Aside0.mk (Kd.R_below (by (with_reducible repeat (first | apply Kd.R_alloc | apply Kd.R_drewN | apply Kd.R_drew)); exact HO342.1) hb); have n8_ := Aside0.mk (Kd.R_below (by (with_reducible repeat (first | apply Kd.R_alloc | apply Kd.R_drewN | apply Kd.R_drew)); exact HO345.1) hb); have n9_ := Aside0.mk (Kd.R_below (by (with_reducible repeat (first | apply Kd.R_alloc | apply Kd.R_drewN | apply Kd.R_drew)); exact HO348.1) hb); have n10_ := Aside0.mk (blk_below (g := gb290) (o := .cells #[.slice A0_0 l0_0.length c0_0, .slice A0_1 l0_1.length c0_1] 24 (0, 0)) (by (with_reducible repeat (first | refine blk_drewN ?_ _ | refine blk_drew ?_ | refine blk_alloc ?_ _)); exact BK290.1) hb); have n11_ := Aside0.mk (blk_below (g := gb305) (o := .cells #[.slice Ao22 t298.length co22, .slice Ao25 t301.length co25] 28 (0, 0)) (by (with_reducible repeat (first | refine blk_drewN ?_ _ | refine blk_drew ?_ | refine blk_alloc ?_ _)); exact BK305.1) hb); have n12_ := Aside0.mk (blk_below (g := gb312) (o := .cells #[.slice Ao29 t330.length co29, .slice Ao33 t331.length co33] 28 (0, 0)) (by (with_reducible repeat (first | refine blk_drewN ?_ _ | refine blk_drew ?_ | refine blk_alloc ?_ _)); exact BK312.1) hb); have n13_ := Aside0.mk (blk_below (g := gb320) (o := .cells #[.slice Ao36 t313.length co36, .slice Ao41 t316.length co41] 28 (0, 0)) (by (with_reducible repeat (first | refine blk_drewN ?_ _ | refine blk_drew ?_ | refine blk_alloc ?_ _)); exact BK320.1) hb); have n14_ := Aside0.mk (below_step (by repeat (first | (with_reducible first | exact HB.1 | apply below_alloc | apply pw_below_drewN | apply below_drew1 | refine below_set ?_ GE290.1 | refine below_set ?_ GE305.1 | refine below_set ?_ GE312.1 | refine below_set ?_ GE320.1) | exact HB.1)) hb); have n15_ := Aside0.mk (hbox); have n16_ := Aside0.mk ((by rw [hg]; exact (below_size (by repeat (first | (with_reducible first | exact HB.1 | apply below_alloc | apply pw_below_drewN | apply below_drew1 | refine below_set ?_ GE290.1 | refine below_set ?_ GE305.1 | refine below_set ?_ GE312.1 | refine below_set ?_ GE320.1) | exact HB.1))) : w.heap.size ≤ gb350)); have n17_ := Aside0.mk ((by rw [hg]; exact (below_size (by repeat (first | (with_reducible first | exact HB.1 | apply below_alloc | apply pw_below_drewN | apply below_drew1 | refine below_set ?_ GE290.1 | refine below_set ?_ GE305.1 | refine below_set ?_ GE312.1 | refine below_set ?_ GE320.1) | exact HB.1))) : w.heap.size ≤ gb350)); have n18_ := Aside0.mk ((by rw [hg]; exact Nat.ne_of_lt (blk_lt (g := gb290) (o := .cells #[.slice A0_0 l0_0.length c0_0, .slice A0_1 l0_1.length c0_1] 24 (0, 0)) (by (with_reducible repeat (first | refine blk_drewN ?_ _ | refine blk_drew ?_ | refine blk_alloc ?_ _)); exact BK290.1)) : gb290 ≠ gb350)); have n19_ := Aside0.mk ((by rw [hg]; exact Nat.ne_of_gt (blk_lt (g := gb290) (o := .cells #[.slice A0_0 l0_0.length c0_0, .slice A0_1 l0_1.length c0_1] 24 (0, 0)) (by (with_reducible repeat (first | refine blk_drewN ?_ _ | refine blk_drew ?_ | refine blk_alloc ?_ _)); exact BK290.1)) : gb350 ≠ gb290)); have n20_ := Aside0.mk ((by rw [hg]; exact Nat.ne_of_lt (blk_lt (g := gb305) (o := .cells #[.slice Ao22 t298.length co22, .slice Ao25 t301.length co25] 28 (0, 0)) (by (with_reducible repeat (first | refine blk_drewN ?_ _ | refine blk_drew ?_ | refine blk_alloc ?_ _)); exact BK305.1)) : gb305 ≠ gb350)); have n21_ := Aside0.mk ((by rw [hg]; exact Nat.ne_of_gt (blk_lt (g := gb305) (o := .cells #[.slice Ao22 t298.length co22, .slice Ao25 t301.length co25] 28 (0, 0)) (by (with_reducible repeat (first | refine blk_drewN ?_ _ | refine blk_drew ?_ | refine blk_alloc ?_ _)); exact BK305.1)) : gb350 ≠ gb305)); have n22_ := Aside0.mk ((by rw [hg]; exact Nat.ne_of_lt (blk_lt (g := gb312) (o := .cells #[.slice Ao29 t330.length co29, .slice Ao33 t331.length co33] 28 (0, 0)) (by (with_reducible repeat (first | refine blk_drewN ?_ _ | refine blk_drew ?_ | refine blk_alloc ?_ _)); exact BK312.1)) : gb312 ≠ gb350)); have n23_ := Aside0.mk ((by rw [hg]; exact Nat.ne_of_gt (blk_lt (g := gb312) (o := .cells #[.slice Ao29 t330.length co29, .slice Ao33 t331.length co33] 28 (0, 0)) (by (with_reducible repeat (first | refine blk_drewN ?_ _ | refine blk_drew ?_ | refine blk_alloc ?_ _)); exact BK312.1)) : gb350 ≠ gb312)); have n24_ := Aside0.mk ((by rw [hg]; exact Nat.ne_of_lt (blk_lt (g := gb320) (o := .cells #[.slice Ao36 t313.length co36, .slice Ao41 t316.length co41] 28 (0, 0)) (by (with_reducible repeat (first | refine blk_drewN ?_ _ | refine blk_drew ?_ | refine blk_alloc ?_ _)); exact BK320.1)) : gb320 ≠ gb350)); have n25_ := Aside0.mk ((by rw [hg]; exact Nat.ne_of_gt (blk_lt (g := gb320) (o := .cells #[.slice Ao36 t313.length co36, .slice Ao41 t316.length co41] 28 (0, 0)) (by (with_reducible repeat (first | refine blk_drewN ?_ _ | refine blk_drew ?_ | refine blk_alloc ?_ _)); exact BK320.1)) : gb350 ≠ gb320)); clear Q306_0; clear Q306_1; clear Q313_0; clear Q313_1; clear Q321_0; clear Q321_1; clear HO339; clear HO342; clear HO345; clear HO348; clear BK290; clear BK305; clear BK312; clear BK320; clear HB; have Q306_0 := n0_; have Q306_1 := n1_; have Q313_0 := n2_; have Q313_1 := n3_; have Q321_0 := n4_; have Q321_1 := n5_; have HO339 := n6_; have HO342 := n7_; have HO345 := n8_; have HO348 := n9_; have BK290 := n10_; have BK305 := n11_; have BK312 := n12_; have BK320 := n13_; have HB := n14_; have BK350 := n15_; have GW350 := n16_; have GE350 := n17_; have NB290_350 := n18_; have NB350_290 := n19_; have NB305_350 := n20_; have NB350_305 := n21_; have NB312_350 := n22_; have NB350_312 := n23_; have NB320_350 := n24_; have NB350_320 := n25_; clear n0_ n1_ n2_ n3_ n4_ n5_ n6_ n7_ n8_ n9_ n10_ n11_ n12_ n13_ n14_ n15_ n16_ n17_ n18_ n19_ n20_ n21_ n22_ n23_ n24_ n25_; clear hb hbox hg; obtain ⟨Ao125, co125, eo125⟩ := Kd.R_slice HO345.1; subst eo125; have hnb126 := NB350_290.1; have hnc126 := NB290_350.1; have hnb127 := NB350_305.1; have hnc127 := NB305_350.1; have hnb128 := NB350_312.1; have hnc128 := NB312_350.1; have hnb129 := NB350_320.1; have hnc129 := NB320_350.1; have hcz130_0 : w124.cell? ⟨gb350, 0, none⟩ = some (.slice none 0 0) := (blk_cell BK350.1 0).trans rfl; have hcz130_1 : w124.cell? ⟨gb350, 1, none⟩ = some (.slice none 0 0) := (blk_cell BK350.1 1).trans rfl; have hfz130_0 := blk_frozen BK350.1 0; have hfz130_1 := blk_frozen BK350.1 1; obtain ⟨Ao131, co131, eo131⟩ := Kd.R_slice HO348.1; subst eo131))
           (try simp only [Act.put, List.setIfInBounds_toArray, List.set_cons_zero, List.set_cons_succ])
           go_cut [92] (fun v92 wc => ∃ (kq : Nat) (x92_108 : Bool), v92 = .bool x92_108 ∧ Aside0 (laws_FnExactWorstGloves.j2 kq t333 x92_108 t334 t335 = some r) ∧ Aside0 (kq ≤ kj64) ∧ Aside0 (Kd.R (Kd.int .i64) 3 wc w.heap.size (fun k_ => some k_ ≠ ((.slice Ao25 t301.length co25) : Value).ownBlock ∧ some k_ ≠ ((.slice Ao29 t330.length co29) : Value).ownBlock ∧ some k_ ≠ ((.slice Ao33 t331.length co33) : Value).ownBlock ∧ some k_ ≠ ((.slice Ao36 t313.length co36) : Value).ownBlock ∧ some k_ ≠ ((.slice Ao41 t316.length co41) : Value).ownBlock ∧ some k_ ≠ ((.slice Ao125 t343.length co125) : Value).ownBlock ∧ some k_ ≠ ((.slice Ao131 t346.length co131) : Value).ownBlock) (.slice Ao22 t298.length co22) t298) ∧ Aside0 (Kd.R (Kd.int .i64) 3 wc w.heap.size (fun k_ => some k_ ≠ ((.slice Ao22 t298.length co22) : Value).ownBlock ∧ some k_ ≠ ((.slice Ao29 t330.length co29) : Value).ownBlock ∧ some k_ ≠ ((.slice Ao33 t331.length co33) : Value).ownBlock ∧ some k_ ≠ ((.slice Ao36 t313.length co36) : Value).ownBlock ∧ some k_ ≠ ((.slice Ao41 t316.length co41) : Value).ownBlock ∧ some k_ ≠ ((.slice Ao125 t343.length co125) : Value).ownBlock ∧ some k_ ≠ ((.slice Ao131 t346.length co131) : Value).ownBlock) (.slice Ao25 t301.length co25) t301) ∧ Aside0 (Kd.R (Kd.int .i64) 3 wc w.heap.size (fun k_ => some k_ ≠ ((.slice Ao22 t298.length co22) : Value).ownBlock ∧ some k_ ≠ ((.slice Ao25 t301.length co25) : Value).ownBlock ∧ some k_ ≠ ((.slice Ao33 t331.length co33) : Value).ownBlock ∧ some k_ ≠ ((.slice Ao36 t313.length co36) : Value).ownBlock ∧ some k_ ≠ ((.slice Ao41 t316.length co41) : Value).ownBlock ∧ some k_ ≠ ((.slice Ao125 t343.length co125) : Value).ownBlock ∧ some k_ ≠ ((.slice Ao131 t346.length co131) : Value).ownBlock) (.slice Ao29 t330.length co29) t330) ∧ Aside0 (Kd.R (Kd.int .i64) 3 wc w.heap.size (fun k_ => some k_ ≠ ((.slice Ao22 t298.length co22) : Value).ownBlock ∧ some k_ ≠ ((.slice Ao25 t301.length co25) : Value).ownBlock ∧ some k_ ≠ ((.slice Ao29 t330.length co29) : Value).ownBlock ∧ some k_ ≠ ((.slice Ao36 t313.length co36) : Value).ownBlock ∧ some k_ ≠ ((.slice Ao41 t316.length co41) : Value).ownBlock ∧ some k_ ≠ ((.slice Ao125 t343.length co125) : Value).ownBlock ∧ some k_ ≠ ((.slice Ao131 t346.length co131) : Value).ownBlock) (.slice Ao33 t331.length co33) t331) ∧ Aside0 (Kd.R (Kd.int .i64) 3 wc w.heap.size (fun k_ => some k_ ≠ ((.slice Ao22 t298.length co22) : Value).ownBlock ∧ some k_ ≠ ((.slice Ao25 t301.length co25) : Value).ownBlock ∧ some k_ ≠ ((.slice Ao29 t330.length co29) : Value).ownBlock ∧ some k_ ≠ ((.slice Ao33 t331.length co33) : Value).ownBlock ∧ some k_ ≠ ((.slice Ao41 t316.length co41) : Value).ownBlock ∧ some k_ ≠ ((.slice Ao125 t343.length co125) : Value).ownBlock ∧ some k_ ≠ ((.slice Ao131 t346.length co131) : Value).ownBlock) (.slice Ao36 t313.length co36) t334) ∧ Aside0 (Kd.R (Kd.int .i64) 3 wc w.heap.size (fun k_ => some k_ ≠ ((.slice Ao22 t298.length co22) : Value).ownBlock ∧ some k_ ≠ ((.slice Ao25 t301.length co25) : Value).ownBlock ∧ some k_ ≠ ((.slice Ao29 t330.length co29) : Value).ownBlock ∧ some k_ ≠ ((.slice Ao33 t331.length co33) : Value).ownBlock ∧ some k_ ≠ ((.slice Ao36 t313.length co36) : Value).ownBlock ∧ some k_ ≠ ((.slice Ao125 t343.length co125) : Value).ownBlock ∧ some k_ ≠ ((.slice Ao131 t346.length co131) : Value).ownBlock) (.slice Ao41 t316.length co41) t335) ∧ Aside0 (Kd.R (Kd.int .i64) 3 wc w.heap.size (fun k_ => some k_ ≠ ((.slice Ao22 t298.length co22) : Value).ownBlock ∧ some k_ ≠ ((.slice Ao25 t301.length co25) : Value).ownBlock ∧ some k_ ≠ ((.slice Ao29 t330.length co29) : Value).ownBlock ∧ some k_ ≠ ((.slice Ao33 t331.length co33) : Value).ownBlock ∧ some k_ ≠ ((.slice Ao36 t313.length co36) : Value).ownBlock ∧ some k_ ≠ ((.slice Ao41 t316.length co41) : Value).ownBlock ∧ some k_ ≠ ((.slice Ao131 t346.length co131) : Value).ownBlock) (.slice Ao125 t343.length co125) t343) ∧ Aside0 (Kd.R (Kd.int .i64) 3 wc w.heap.size (fun k_ => some k_ ≠ ((.slice Ao22 t298.length co22) : Value).ownBlock ∧ some k_ ≠ ((.slice Ao25 t301.length co25) : Value).ownBlock ∧ some k_ ≠ ((.slice Ao29 t330.length co29) : Value).ownBlock ∧ some k_ ≠ ((.slice Ao33 t331.length co33) : Value).ownBlock ∧ some k_ ≠ ((.slice Ao36 t313.length co36) : Value).ownBlock ∧ some k_ ≠ ((.slice Ao41 t316.length co41) : Value).ownBlock ∧ some k_ ≠ ((.slice Ao125 t343.length co125) : Value).ownBlock) (.slice Ao131 t346.length co131) t346) ∧ Aside0 (wc.heap[gb290]? = some (.cells #[(.slice A0_0 l0_0.length c0_0), (.slice A0_1 l0_1.length c0_1)] 24 (0, 0))) ∧ Aside0 (wc.heap[gb305]? = some (.cells #[(.slice Ao22 t298.length co22), (.slice Ao25 t301.length co25)] 28 (0, 0))) ∧ Aside0 (wc.heap[gb312]? = some (.cells #[(.slice Ao29 t330.length co29), (.slice Ao33 t331.length co33)] 28 (0, 0))) ∧ Aside0 (wc.heap[gb320]? = some (.cells #[(.slice Ao36 t313.length co36), (.slice Ao41 t316.length co41)] 28 (0, 0))) ∧ Aside0 (wc.heap[gb350]? = some (.cells #[(.slice Ao125 t343.length co125), (.slice Ao131 t346.length co131)] 28 (0, 0))) ∧ Aside0 (Below w.heap.size w wc))
           case first =>
            have H := HC109.1
            clear HC109
            replace H := Option.bind_eq_some_iff.mp H
            obtain ⟨t351, A1320, H⟩ := H
            replace H : (if t351 = true then (laws_FnExactWorstGloves.j2 kj64 t333 (t349 != t304) t334 t335) else (laws_FnExactWorstGloves.j2 kj64 t333 true t334 t335)) = some r := H
            have A132 := Aside0.mk A1320
            clear A1320
            by_cases c133 : t351 = true
            ·subst c133
             have H1 : (laws_FnExactWorstGloves.j2 kj64 t333 (t349 != t304) t334 t335) = some r := by rw [if_pos rfl] at H; exact H
             clear H
             have H := H1
             clear H1
             have H' := Aside0.mk H
             clear H
             have hnb134 := NB350_290.1
             have hnc134 := NB290_350.1
             have hnb135 := NB350_305.1
             have hnc135 := NB305_350.1
             have hnb136 := NB350_312.1
             have hnc136 := NB312_350.1
             have hnb137 := NB350_320.1
             have hnc137 := NB320_350.1
             have hcz138_0 : w124.cell? ⟨gb350, 0, none⟩ = some (.slice none 0 0) := (blk_cell BK350.1 0).trans rfl
             have hcz138_1 : w124.cell? ⟨gb350, 1, none⟩ = some (.slice none 0 0) := (blk_cell BK350.1 1).trans rfl
             have hfz138_0 := blk_frozen BK350.1 0
             have hfz138_1 := blk_frozen BK350.1 1
             have hnb139 := NB305_290.1
             have hnc139 := NB290_305.1
             have hnb140 := NB305_312.1
             have hnc140 := NB312_305.1
             have hnb141 := NB305_320.1
             have hnc141 := NB320_305.1
             have hcz142_0 : w124.cell? ⟨gb305, 0, none⟩ = some (.slice Ao22 t298.length co22) := (blk_cell BK305.1 0).trans rfl
             have hcz142_1 : w124.cell? ⟨gb305, 1, none⟩ = some (.slice Ao25 t301.length co25) := (blk_cell BK305.1 1).trans rfl
             have hfz142_0 := blk_frozen BK305.1 0
             have hfz142_1 := blk_frozen BK305.1 1
             go_wp2_with (first | ((with_reducible refine gate_callee (f := 19) rfl ?_); refine goesL_ (some 86) rfl rfl Try.func19 (by kernel_rfl) rfl #[.agg #[.slice Ao125 t343.length co125, .slice Ao131 t346.length co131], .agg #[.slice Ao22 t298.length co22, .slice Ao25 t301.length co25]] rfl (by (try simp only [List.map_toArray, List.map_cons, List.map_nil]); first | done | rfl | (simp only [List.length_drop, List.length_take]; rfl)) ?_; (with_reducible refine (laws_eqGloves.calls kj64 _ _ t343 _ _ t346 _ _ t298 _ _ t301 true _ ?side1 ?side2 ?side3 ?side4 ?side5 ?side6 ?side7 ?side8 A132.1).mono ?_); (case side1 => refine (Kd.R_reads' (e := 3) (base := w.heap.size) (ok := fun k_ => ((((((((some k_ ≠ (.slice Ao131 t346.length co131 : Value).ownBlock ∧ some k_ ≠ (.slice Ao22 t298.length co22 : Value).ownBlock) ∧ some k_ ≠ (.slice Ao25 t301.length co25 : Value).ownBlock) ∧ some k_ ≠ (.slice Ao29 t330.length co29 : Value).ownBlock) ∧ some k_ ≠ (.slice Ao33 t331.length co33 : Value).ownBlock) ∧ some k_ ≠ (.slice Ao36 t313.length co36 : Value).ownBlock) ∧ some k_ ≠ (.slice Ao41 t316.length co41 : Value).ownBlock) ∧ some k_ ≠ (.slice Ao121 t337.length co121 : Value).ownBlock) ∧ some k_ ≠ (.slice Ao122 t340.length co122 : Value).ownBlock)) (n := t343.length) (c := co125) ?_).2.2; exact (by (with_reducible repeat (first | apply Kd.R_alloc | apply Kd.R_drewN | apply Kd.R_drew)); exact (Kd.R_mono (Kd.R_far (p := ⟨gb350, 1, none⟩) (Kd.R_far (p := ⟨gb350, 0, none⟩) (Kd.R_types HO345.1 BK350.1 (by decide)) (fun _ hk => hk.2) (.slice Ao125 t343.length co125)) (fun _ hk => hk.2) (.slice Ao131 t346.length co131)) (fun _ h_ => h_.1)))); (case side2 => exact (Kd.R_reads' HO345.1).2.1); (case side3 => refine (Kd.R_reads' (e := 3) (base := w.heap.size) (ok := fun k_ => ((((((((some k_ ≠ (.slice Ao125 t343.length co125 : Value).ownBlock ∧ some k_ ≠ (.slice Ao22 t298.length co22 : Value).ownBlock) ∧ some k_ ≠ (.slice Ao25 t301.length co25 : Value).ownBlock) ∧ some k_ ≠ (.slice Ao29 t330.length co29 : Value).ownBlock) ∧ some k_ ≠ (.slice Ao33 t331.length co33 : Value).ownBlock) ∧ some k_ ≠ (.slice Ao36 t313.length co36 : Value).ownBlock) ∧ some k_ ≠ (.slice Ao41 t316.length co41 : Value).ownBlock) ∧ some k_ ≠ (.slice Ao121 t337.length co121 : Value).ownBlock) ∧ some k_ ≠ (.slice Ao122 t340.length co122 : Value).ownBlock)) (n := t346.length) (c := co131) ?_).2.2; exact (by (with_reducible repeat (first | apply Kd.R_alloc | apply Kd.R_drewN | apply Kd.R_drew)); exact (Kd.R_mono (Kd.R_far (p := ⟨gb350, 1, none⟩) (Kd.R_far (p := ⟨gb350, 0, none⟩) (Kd.R_types HO348.1 BK350.1 (by decide)) (fun _ hk => hk.2) (.slice Ao125 t343.length co125)) (fun _ hk => hk.2) (.slice Ao131 t346.length co131)) (fun _ h_ => h_.1)))); (case side4 => exact (Kd.R_reads' HO348.1).2.1); (case side5 => refine (Kd.R_reads' (e := 3) (base := w.heap.size) (ok := fun k_ => (((((some k_ ≠ (.slice Ao25 t301.length co25 : Value).ownBlock ∧ (some k_ ≠ (.slice Ao29 t330.length co29 : Value).ownBlock ∧ (some k_ ≠ (.slice Ao33 t331.length co33 : Value).ownBlock ∧ (some k_ ≠ (.slice Ao36 t313.length co36 : Value).ownBlock ∧ some k_ ≠ (.slice Ao41 t316.length co41 : Value).ownBlock)))) ∧ some k_ ≠ (.slice Ao121 t337.length co121 : Value).ownBlock) ∧ some k_ ≠ (.slice Ao122 t340.length co122 : Value).ownBlock) ∧ some k_ ≠ (.slice Ao125 t343.length co125 : Value).ownBlock) ∧ some k_ ≠ (.slice Ao131 t346.length co131 : Value).ownBlock)) (n := t298.length) (c := co22) ?_).2.2; exact (by (with_reducible repeat (first | apply Kd.R_alloc | apply Kd.R_drewN | apply Kd.R_drew)); exact (Kd.R_mono (Kd.R_far (p := ⟨gb350, 1, none⟩) (Kd.R_far (p := ⟨gb350, 0, none⟩) (Kd.R_types Q306_0.1 BK350.1 (by decide)) (fun _ hk => hk.2) (.slice Ao125 t343.length co125)) (fun _ hk => hk.2) (.slice Ao131 t346.length co131)) (fun _ h_ => h_.1)))); (case side6 => exact (Kd.R_reads' Q306_0.1).2.1); (case side7 => refine (Kd.R_reads' (e := 3) (base := w.heap.size) (ok := fun k_ => (((((some k_ ≠ (.slice Ao22 t298.length co22 : Value).ownBlock ∧ (some k_ ≠ (.slice Ao29 t330.length co29 : Value).ownBlock ∧ (some k_ ≠ (.slice Ao33 t331.length co33 : Value).ownBlock ∧ (some k_ ≠ (.slice Ao36 t313.length co36 : Value).ownBlock ∧ some k_ ≠ (.slice Ao41 t316.length co41 : Value).ownBlock)))) ∧ some k_ ≠ (.slice Ao121 t337.length co121 : Value).ownBlock) ∧ some k_ ≠ (.slice Ao122 t340.length co122 : Value).ownBlock) ∧ some k_ ≠ (.slice Ao125 t343.length co125 : Value).ownBlock) ∧ some k_ ≠ (.slice Ao131 t346.length co131 : Value).ownBlock)) (n := t301.length) (c := co25) ?_).2.2; exact (by (with_reducible repeat (first | apply Kd.R_alloc | apply Kd.R_drewN | apply Kd.R_drew)); exact (Kd.R_mono (Kd.R_far (p := ⟨gb350, 1, none⟩) (Kd.R_far (p := ⟨gb350, 0, none⟩) (Kd.R_types Q306_1.1 BK350.1 (by decide)) (fun _ hk => hk.2) (.slice Ao125 t343.length co125)) (fun _ hk => hk.2) (.slice Ao131 t346.length co131)) (fun _ h_ => h_.1)))); (case side8 => exact (Kd.R_reads' Q306_1.1).2.1); rintro e w143 ⟨rfl, hb⟩; refine ⟨_, rfl, ?_⟩; have n0_ := Aside0.mk (Kd.R_below (by (with_reducible repeat (first | apply Kd.R_alloc | apply Kd.R_drewN | apply Kd.R_drew)); exact (Kd.R_mono (Kd.R_far (p := ⟨gb350, 1, none⟩) (Kd.R_far (p := ⟨gb350, 0, none⟩) (Kd.R_types Q306_0.1 BK350.1 (by decide)) (fun _ hk => hk.2) (.slice Ao125 t343.length co125)) (fun _ hk => hk.2) (.slice Ao131 t346.length co131)) (fun _ h_ => h_.1))) hb); have n1_ := Aside0.mk (Kd.R_below (by (with_reducible repeat (first | apply Kd.R_alloc | apply Kd.R_drewN | apply Kd.R_drew)); exact (Kd.R_mono (Kd.R_far (p := ⟨gb350, 1, none⟩) (Kd.R_far (p := ⟨gb350, 0, none⟩) (Kd.R_types Q306_1.1 BK350.1 (by decide)) (fun _ hk => hk.2) (.slice Ao125 t343.length co125)) (fun _ hk => hk.2) (.slice Ao131 t346.length co131)) (fun _ h_ => h_.1))) hb); have n2_ := Aside0.mk (Kd.R_below (by (with_reducible repeat (first | apply Kd.R_alloc | apply Kd.R_drewN | apply Kd.R_drew)); exact (Kd.R_mono (Kd.R_far (p := ⟨gb350, 1, none⟩) (Kd.R_far (p := ⟨gb350, 0, none⟩) (Kd.R_types Q313_0.1 BK350.1 (by decide)) (fun _ hk => hk.2) (.slice Ao125 t343.length co125)) (fun _ hk => hk.2) (.slice Ao131 t346.length co131)) (fun _ h_ => h_.1))) hb); have n3_ := Aside0.mk (Kd.R_below (by (with_reducible repeat (first | apply Kd.R_alloc | apply Kd.R_drewN | apply Kd.R_drew)); exact (Kd.R_mono (Kd.R_far (p := ⟨gb350, 1, none⟩) (Kd.R_far (p := ⟨gb350, 0, none⟩) (Kd.R_types Q313_1.1 BK350.1 (by decide)) (fun _ hk => hk.2) (.slice Ao125 t343.length co125)) (fun _ hk => hk.2) (.slice Ao131 t346.length co131)) (fun _ h_ => h_.1))) hb); have n4_ := Aside0.mk (Kd.R_below (by (with_reducible repeat (first | apply Kd.R_alloc | apply Kd.R_drewN | apply Kd.R_drew)); exact (Kd.R_mono (Kd.R_far (p := ⟨gb350, 1, none⟩) (Kd.R_far (p := ⟨gb350, 0, none⟩) (Kd.R_types Q321_0.1 BK350.1 (by decide)) (fun _ hk => hk.2) (.slice Ao125 t343.length co125)) (fun _ hk => hk.2) (.slice Ao131 t346.length co131)) (fun _ h_ => h_.1))) hb); have n5_ := Aside0.mk (Kd.R_below (by (with_reducible repeat (first | apply Kd.R_alloc | apply Kd.R_drewN | apply Kd.R_drew)); exact (Kd.R_mono (Kd.R_far (p := ⟨gb350, 1, none⟩) (Kd.R_far (p := ⟨gb350, 0, none⟩) (Kd.R_types Q321_1.1 BK350.1 (by decide)) (fun _ hk => hk.2) (.slice Ao125 t343.length co125)) (fun _ hk => hk.2) (.slice Ao131 t346.length co131)) (fun _ h_ => h_.1))) hb); have n6_ := Aside0.mk (Kd.R_below (by (with_reducible repeat (first | apply Kd.R_alloc | apply Kd.R_drewN | apply Kd.R_drew)); exact (Kd.R_mono (Kd.R_far (p := ⟨gb350, 1, none⟩) (Kd.R_far (p := ⟨gb350, 0, none⟩) (Kd.R_types HO339.1 BK350.1 (by decide)) (fun _ hk => hk.2) (.slice Ao125 t343.length co125)) (fun _ hk => hk.2) (.slice Ao131 t346.length co131)) (fun _ h_ => h_.1))) hb); have n7_ := Aside0.mk (Kd.R_below (by (with_reducible repeat (first | apply Kd.R_alloc | apply Kd.R_drewN | apply Kd.R_drew)); exact (Kd.R_mono (Kd.R_far (p := ⟨gb350, 1, none⟩) (Kd.R_far (p := ⟨gb350, 0, none⟩) (Kd.R_types HO342.1 BK350.1 (by decide)) (fun _ hk => hk.2) (.slice Ao125 t343.length co125)) (fun _ hk => hk.2) (.slice Ao131 t346.length co131)) (fun _ h_ => h_.1))) hb); have n8_ := Aside0.mk (Kd.R_below (by (with_reducible repeat (first | apply Kd.R_alloc | apply Kd.R_drewN | apply Kd.R_drew)); exact (Kd.R_mono (Kd.R_far (p := ⟨gb350, 1, none⟩) (Kd.R_far (p := ⟨gb350, 0, none⟩) (Kd.R_types HO345.1 BK350.1 (by decide)) (fun _ hk => hk.2) (.slice Ao125 t343.length co125)) (fun _ hk => hk.2) (.slice Ao131 t346.length co131)) (fun _ h_ => h_.1))) hb); have n9_ := Aside0.mk (Kd.R_below (by (with_reducible repeat (first | apply Kd.R_alloc | apply Kd.R_drewN | apply Kd.R_drew)); exact (Kd.R_mono (Kd.R_far (p := ⟨gb350, 1, none⟩) (Kd.R_far (p := ⟨gb350, 0, none⟩) (Kd.R_types HO348.1 BK350.1 (by decide)) (fun _ hk => hk.2) (.slice Ao125 t343.length co125)) (fun _ hk => hk.2) (.slice Ao131 t346.length co131)) (fun _ h_ => h_.1))) hb); have n10_ := Aside0.mk (blk_below (g := gb290) (o := .cells #[.slice A0_0 l0_0.length c0_0, .slice A0_1 l0_1.length c0_1] 24 (0, 0)) (by (with_reducible repeat (first | refine blk_drewN ?_ _ | refine blk_drew ?_ | refine blk_alloc ?_ _)); refine blk_far ?_ NB290_350.1 _; (with_reducible repeat (first | refine blk_drewN ?_ _ | refine blk_drew ?_ | refine blk_alloc ?_ _)); refine blk_far ?_ NB290_350.1 _; (with_reducible repeat (first | refine blk_drewN ?_ _ | refine blk_drew ?_ | refine blk_alloc ?_ _)); exact BK290.1) hb); have n11_ := Aside0.mk (blk_below (g := gb305) (o := .cells #[.slice Ao22 t298.length co22, .slice Ao25 t301.length co25] 28 (0, 0)) (by (with_reducible repeat (first | refine blk_drewN ?_ _ | refine blk_drew ?_ | refine blk_alloc ?_ _)); refine blk_far ?_ NB305_350.1 _; (with_reducible repeat (first | refine blk_drewN ?_ _ | refine blk_drew ?_ | refine blk_alloc ?_ _)); refine blk_far ?_ NB305_350.1 _; (with_reducible repeat (first | refine blk_drewN ?_ _ | refine blk_drew ?_ | refine blk_alloc ?_ _)); exact BK305.1) hb); have n12_ := Aside0.mk (blk_below (g := gb312) (o := .cells #[.slice Ao29 t330.length co29, .slice Ao33 t331.length co33] 28 (0, 0)) (by (with_reducible repeat (first | refine blk_drewN ?_ _ | refine blk_drew ?_ | refine blk_alloc ?_ _)); refine blk_far ?_ NB312_350.1 _; (with_reducible repeat (first | refine blk_drewN ?_ _ | refine blk_drew ?_ | refine blk_alloc ?_ _)); refine blk_far ?_ NB312_350.1 _; (with_reducible repeat (first | refine blk_drewN ?_ _ | refine blk_drew ?_ | refine blk_alloc ?_ _)); exact BK312.1) hb); have n13_ := Aside0.mk (blk_below (g := gb320) (o := .cells #[.slice Ao36 t313.length co36, .slice Ao41 t316.length co41] 28 (0, 0)) (by (with_reducible repeat (first | refine blk_drewN ?_ _ | refine blk_drew ?_ | refine blk_alloc ?_ _)); refine blk_far ?_ NB320_350.1 _; (with_reducible repeat (first | refine blk_drewN ?_ _ | refine blk_drew ?_ | refine blk_alloc ?_ _)); refine blk_far ?_ NB320_350.1 _; (with_reducible repeat (first | refine blk_drewN ?_ _ | refine blk_drew ?_ | refine blk_alloc ?_ _)); exact BK320.1) hb); have n14_ := Aside0.mk (blk_below (g := gb350) (o := .cells #[.slice Ao125 t343.length co125, .slice Ao131 t346.length co131] 28 (0, 0)) (by (with_reducible repeat (first | refine blk_drewN ?_ _ | refine blk_drew ?_ | refine blk_alloc ?_ _)); refine blk_put (cs := #[.slice Ao125 t343.length co125, .slice none 0 0]) ?_ 1 _ rfl; (with_reducible repeat (first | refine blk_drewN ?_ _ | refine blk_drew ?_ | refine blk_alloc ?_ _)); refine blk_put (cs := #[.slice none 0 0, .slice none 0 0]) ?_ 0 _ rfl; (with_reducible repeat (first | refine blk_drewN ?_ _ | refine blk_drew ?_ | refine blk_alloc ?_ _)); exact BK350.1) hb); have n15_ := Aside0.mk (below_step (by repeat (first | (with_reducible first | exact HB.1 | apply below_alloc | apply pw_below_drewN | apply below_drew1 | refine below_set ?_ GE290.1 | refine below_set ?_ GE305.1 | refine below_set ?_ GE312.1 | refine below_set ?_ GE320.1 | refine below_set ?_ GE350.1) | exact HB.1)) hb); clear Q306_0; clear Q306_1; clear Q313_0; clear Q313_1; clear Q321_0; clear Q321_1; clear HO339; clear HO342; clear HO345; clear HO348; clear BK290; clear BK305; clear BK312; clear BK320; clear BK350; clear HB; have Q306_0 := n0_; have Q306_1 := n1_; have Q313_0 := n2_; have Q313_1 := n3_; have Q321_0 := n4_; have Q321_1 := n5_; have HO339 := n6_; have HO342 := n7_; have HO345 := n8_; have HO348 := n9_; have BK290 := n10_; have BK305 := n11_; have BK312 := n12_; have BK320 := n13_; have BK350 := n14_; have HB := n15_; clear n0_ n1_ n2_ n3_ n4_ n5_ n6_ n7_ n8_ n9_ n10_ n11_ n12_ n13_ n14_ n15_; (try clear hb); (try clear hb2); (try clear hk); (try clear hi)))
             go_meet
             case rel => exact ⟨_, ((t349 != t304)), (by first | rfl | (simp; done) | (simp [*]; done) | (simp [Go.IntWalk.i64_left]; done)), H', ⟨by have := HJ11.1; have := HJ64.1; first | omega | exact Nat.le_refl _⟩, ⟨by (try simp only [hl313000_64]); (try simp only [hl313001_64]); (with_reducible repeat (first | apply Kd.R_alloc | apply Kd.R_drewN | apply Kd.R_drew)); exact Kd.R_mono Q306_0.1 (fun _ hk => ⟨hk.1.1.1.1.1, ⟨hk.1.1.1.1.2.1, ⟨hk.1.1.1.1.2.2.1, ⟨hk.1.1.1.1.2.2.2.1, ⟨hk.1.1.1.1.2.2.2.2, ⟨hk.1.2, hk.2⟩⟩⟩⟩⟩⟩)⟩, ⟨by (try simp only [hl313000_64]); (try simp only [hl313001_64]); (with_reducible repeat (first | apply Kd.R_alloc | apply Kd.R_drewN | apply Kd.R_drew)); exact Kd.R_mono Q306_1.1 (fun _ hk => ⟨hk.1.1.1.1.1, ⟨hk.1.1.1.1.2.1, ⟨hk.1.1.1.1.2.2.1, ⟨hk.1.1.1.1.2.2.2.1, ⟨hk.1.1.1.1.2.2.2.2, ⟨hk.1.2, hk.2⟩⟩⟩⟩⟩⟩)⟩, ⟨by (try simp only [hl313000_64]); (try simp only [hl313001_64]); (with_reducible repeat (first | apply Kd.R_alloc | apply Kd.R_drewN | apply Kd.R_drew)); exact Kd.R_mono Q313_0.1 (fun _ hk => ⟨hk.1.1.1.1.1, ⟨hk.1.1.1.1.2.1, ⟨hk.1.1.1.1.2.2.1, ⟨hk.1.1.1.1.2.2.2.1, ⟨hk.1.1.1.1.2.2.2.2, ⟨hk.1.2, hk.2⟩⟩⟩⟩⟩⟩)⟩, ⟨by (try simp only [hl313000_64]); (try simp only [hl313001_64]); (with_reducible repeat (first | apply Kd.R_alloc | apply Kd.R_drewN | apply Kd.R_drew)); exact Kd.R_mono Q313_1.1 (fun _ hk => ⟨hk.1.1.1.1.1, ⟨hk.1.1.1.1.2.1, ⟨hk.1.1.1.1.2.2.1, ⟨hk.1.1.1.1.2.2.2.1, ⟨hk.1.1.1.1.2.2.2.2, ⟨hk.1.2, hk.2⟩⟩⟩⟩⟩⟩)⟩, ⟨by (try simp only [hl313000_64]); (try simp only [hl313001_64]); (with_reducible repeat (first | apply Kd.R_alloc | apply Kd.R_drewN | apply Kd.R_drew)); exact Kd.R_mono Q321_0.1 (fun _ hk => ⟨hk.1.1.1.1.1, ⟨hk.1.1.1.1.2.1, ⟨hk.1.1.1.1.2.2.1, ⟨hk.1.1.1.1.2.2.2.1, ⟨hk.1.1.1.1.2.2.2.2, ⟨hk.1.2, hk.2⟩⟩⟩⟩⟩⟩)⟩, ⟨by (try simp only [hl313000_64]); (try simp only [hl313001_64]); (with_reducible repeat (first | apply Kd.R_alloc | apply Kd.R_drewN | apply Kd.R_drew)); exact Kd.R_mono Q321_1.1 (fun _ hk => ⟨hk.1.1.1.1.1, ⟨hk.1.1.1.1.2.1, ⟨hk.1.1.1.1.2.2.1, ⟨hk.1.1.1.1.2.2.2.1, ⟨hk.1.1.1.1.2.2.2.2, ⟨hk.1.2, hk.2⟩⟩⟩⟩⟩⟩)⟩, ⟨by (try simp only [hl313000_64]); (try simp only [hl313001_64]); (with_reducible repeat (first | apply Kd.R_alloc | apply Kd.R_drewN | apply Kd.R_drew)); exact Kd.R_mono HO345.1 (fun _ hk => ⟨hk.1.1.1.1.1.1.1.2, ⟨hk.1.1.1.1.1.1.2, ⟨hk.1.1.1.1.1.2, ⟨hk.1.1.1.1.2, ⟨hk.1.1.1.2, ⟨hk.1.1.2, hk.1.1.1.1.1.1.1.1⟩⟩⟩⟩⟩⟩)⟩, ⟨by (try simp only [hl313000_64]); (try simp only [hl313001_64]); (with_reducible repeat (first | apply Kd.R_alloc | apply Kd.R_drewN | apply Kd.R_drew)); exact Kd.R_mono HO348.1 (fun _ hk => ⟨hk.1.1.1.1.1.1.1.2, ⟨hk.1.1.1.1.1.1.2, ⟨hk.1.1.1.1.1.2, ⟨hk.1.1.1.1.2, ⟨hk.1.1.1.2, ⟨hk.1.1.2, hk.1.1.1.1.1.1.1.1⟩⟩⟩⟩⟩⟩)⟩, ⟨by (try simp only [hl313000_64]); (try simp only [hl313001_64]); (with_reducible repeat (first | refine blk_drewN ?_ _ | refine blk_drew ?_ | refine blk_alloc ?_ _)); exact BK290.1⟩, ⟨by (try simp only [hl313000_64]); (try simp only [hl313001_64]); (with_reducible repeat (first | refine blk_drewN ?_ _ | refine blk_drew ?_ | refine blk_alloc ?_ _)); exact BK305.1⟩, ⟨by (try simp only [hl313000_64]); (try simp only [hl313001_64]); (with_reducible repeat (first | refine blk_drewN ?_ _ | refine blk_drew ?_ | refine blk_alloc ?_ _)); exact BK312.1⟩, ⟨by (try simp only [hl313000_64]); (try simp only [hl313001_64]); (with_reducible repeat (first | refine blk_drewN ?_ _ | refine blk_drew ?_ | refine blk_alloc ?_ _)); exact BK320.1⟩, ⟨by (try simp only [hl313000_64]); (try simp only [hl313001_64]); (with_reducible repeat (first | refine blk_drewN ?_ _ | refine blk_drew ?_ | refine blk_alloc ?_ _)); exact BK350.1⟩, ⟨by repeat (first | (with_reducible first | exact HB.1 | apply below_alloc | apply pw_below_drewN | apply below_drew1 | refine below_set ?_ GE290.1 | refine below_set ?_ GE305.1 | refine below_set ?_ GE312.1 | refine below_set ?_ GE320.1 | refine below_set ?_ GE350.1) | exact HB.1)⟩⟩
            ·replace c133 := Bool.eq_false_iff.mpr c133
             subst c133
             have H1 : (laws_FnExactWorstGloves.j2 kj64 t333 true t334 t335) = some r := by rw [if_neg (show ¬ (false = true) by decide)] at H; exact H
             clear H
             have H := H1
             clear H1
             have H' := Aside0.mk H
             clear H
             have hnb144 := NB350_290.1
             have hnc144 := NB290_350.1
             have hnb145 := NB350_305.1
             have hnc145 := NB305_350.1
             have hnb146 := NB350_312.1
             have hnc146 := NB312_350.1
             have hnb147 := NB350_320.1
             have hnc147 := NB320_350.1
             have hcz148_0 : w124.cell? ⟨gb350, 0, none⟩ = some (.slice none 0 0) := (blk_cell BK350.1 0).trans rfl
             have hcz148_1 : w124.cell? ⟨gb350, 1, none⟩ = some (.slice none 0 0) := (blk_cell BK350.1 1).trans rfl
             have hfz148_0 := blk_frozen BK350.1 0
             have hfz148_1 := blk_frozen BK350.1 1
             have hnb149 := NB305_290.1
             have hnc149 := NB290_305.1
             have hnb150 := NB305_312.1
             have hnc150 := NB312_305.1
             have hnb151 := NB305_320.1
             have hnc151 := NB320_305.1
             have hcz152_0 : w124.cell? ⟨gb305, 0, none⟩ = some (.slice Ao22 t298.length co22) := (blk_cell BK305.1 0).trans rfl
             have hcz152_1 : w124.cell? ⟨gb305, 1, none⟩ = some (.slice Ao25 t301.length co25) := (blk_cell BK305.1 1).trans rfl
             have hfz152_0 := blk_frozen BK305.1 0
             have hfz152_1 := blk_frozen BK305.1 1
             go_wp2_with (first | ((with_reducible refine gate_callee (f := 19) rfl ?_); refine goesL_ (some 86) rfl rfl Try.func19 (by kernel_rfl) rfl #[.agg #[.slice Ao125 t343.length co125, .slice Ao131 t346.length co131], .agg #[.slice Ao22 t298.length co22, .slice Ao25 t301.length co25]] rfl (by (try simp only [List.map_toArray, List.map_cons, List.map_nil]); first | done | rfl | (simp only [List.length_drop, List.length_take]; rfl)) ?_; (with_reducible refine (laws_eqGloves.calls kj64 _ _ t343 _ _ t346 _ _ t298 _ _ t301 false _ ?side1 ?side2 ?side3 ?side4 ?side5 ?side6 ?side7 ?side8 A132.1).mono ?_); (case side1 => refine (Kd.R_reads' (e := 3) (base := w.heap.size) (ok := fun k_ => ((((((((some k_ ≠ (.slice Ao131 t346.length co131 : Value).ownBlock ∧ some k_ ≠ (.slice Ao22 t298.length co22 : Value).ownBlock) ∧ some k_ ≠ (.slice Ao25 t301.length co25 : Value).ownBlock) ∧ some k_ ≠ (.slice Ao29 t330.length co29 : Value).ownBlock) ∧ some k_ ≠ (.slice Ao33 t331.length co33 : Value).ownBlock) ∧ some k_ ≠ (.slice Ao36 t313.length co36 : Value).ownBlock) ∧ some k_ ≠ (.slice Ao41 t316.length co41 : Value).ownBlock) ∧ some k_ ≠ (.slice Ao121 t337.length co121 : Value).ownBlock) ∧ some k_ ≠ (.slice Ao122 t340.length co122 : Value).ownBlock)) (n := t343.length) (c := co125) ?_).2.2; exact (by (with_reducible repeat (first | apply Kd.R_alloc | apply Kd.R_drewN | apply Kd.R_drew)); exact (Kd.R_mono (Kd.R_far (p := ⟨gb350, 1, none⟩) (Kd.R_far (p := ⟨gb350, 0, none⟩) (Kd.R_types HO345.1 BK350.1 (by decide)) (fun _ hk => hk.2) (.slice Ao125 t343.length co125)) (fun _ hk => hk.2) (.slice Ao131 t346.length co131)) (fun _ h_ => h_.1)))); (case side2 => exact (Kd.R_reads' HO345.1).2.1); (case side3 => refine (Kd.R_reads' (e := 3) (base := w.heap.size) (ok := fun k_ => ((((((((some k_ ≠ (.slice Ao125 t343.length co125 : Value).ownBlock ∧ some k_ ≠ (.slice Ao22 t298.length co22 : Value).ownBlock) ∧ some k_ ≠ (.slice Ao25 t301.length co25 : Value).ownBlock) ∧ some k_ ≠ (.slice Ao29 t330.length co29 : Value).ownBlock) ∧ some k_ ≠ (.slice Ao33 t331.length co33 : Value).ownBlock) ∧ some k_ ≠ (.slice Ao36 t313.length co36 : Value).ownBlock) ∧ some k_ ≠ (.slice Ao41 t316.length co41 : Value).ownBlock) ∧ some k_ ≠ (.slice Ao121 t337.length co121 : Value).ownBlock) ∧ some k_ ≠ (.slice Ao122 t340.length co122 : Value).ownBlock)) (n := t346.length) (c := co131) ?_).2.2; exact (by (with_reducible repeat (first | apply Kd.R_alloc | apply Kd.R_drewN | apply Kd.R_drew)); exact (Kd.R_mono (Kd.R_far (p := ⟨gb350, 1, none⟩) (Kd.R_far (p := ⟨gb350, 0, none⟩) (Kd.R_types HO348.1 BK350.1 (by decide)) (fun _ hk => hk.2) (.slice Ao125 t343.length co125)) (fun _ hk => hk.2) (.slice Ao131 t346.length co131)) (fun _ h_ => h_.1)))); (case side4 => exact (Kd.R_reads' HO348.1).2.1); (case side5 => refine (Kd.R_reads' (e := 3) (base := w.heap.size) (ok := fun k_ => (((((some k_ ≠ (.slice Ao25 t301.length co25 : Value).ownBlock ∧ (some k_ ≠ (.slice Ao29 t330.length co29 : Value).ownBlock ∧ (some k_ ≠ (.slice Ao33 t331.length co33 : Value).ownBlock ∧ (some k_ ≠ (.slice Ao36 t313.length co36 : Value).ownBlock ∧ some k_ ≠ (.slice Ao41 t316.length co41 : Value).ownBlock)))) ∧ some k_ ≠ (.slice Ao121 t337.length co121 : Value).ownBlock) ∧ some k_ ≠ (.slice Ao122 t340.length co122 : Value).ownBlock) ∧ some k_ ≠ (.slice Ao125 t343.length co125 : Value).ownBlock) ∧ some k_ ≠ (.slice Ao131 t346.length co131 : Value).ownBlock)) (n := t298.length) (c := co22) ?_).2.2; exact (by (with_reducible repeat (first | apply Kd.R_alloc | apply Kd.R_drewN | apply Kd.R_drew)); exact (Kd.R_mono (Kd.R_far (p := ⟨gb350, 1, none⟩) (Kd.R_far (p := ⟨gb350, 0, none⟩) (Kd.R_types Q306_0.1 BK350.1 (by decide)) (fun _ hk => hk.2) (.slice Ao125 t343.length co125)) (fun _ hk => hk.2) (.slice Ao131 t346.length co131)) (fun _ h_ => h_.1)))); (case side6 => exact (Kd.R_reads' Q306_0.1).2.1); (case side7 => refine (Kd.R_reads' (e := 3) (base := w.heap.size) (ok := fun k_ => (((((some k_ ≠ (.slice Ao22 t298.length co22 : Value).ownBlock ∧ (some k_ ≠ (.slice Ao29 t330.length co29 : Value).ownBlock ∧ (some k_ ≠ (.slice Ao33 t331.length co33 : Value).ownBlock ∧ (some k_ ≠ (.slice Ao36 t313.length co36 : Value).ownBlock ∧ some k_ ≠ (.slice Ao41 t316.length co41 : Value).ownBlock)))) ∧ some k_ ≠ (.slice Ao121 t337.length co121 : Value).ownBlock) ∧ some k_ ≠ (.slice Ao122 t340.length co122 : Value).ownBlock) ∧ some k_ ≠ (.slice Ao125 t343.length co125 : Value).ownBlock) ∧ some k_ ≠ (.slice Ao131 t346.length co131 : Value).ownBlock)) (n := t301.length) (c := co25) ?_).2.2; exact (by (with_reducible repeat (first | apply Kd.R_alloc | apply Kd.R_drewN | apply Kd.R_drew)); exact (Kd.R_mono (Kd.R_far (p := ⟨gb350, 1, none⟩) (Kd.R_far (p := ⟨gb350, 0, none⟩) (Kd.R_types Q306_1.1 BK350.1 (by decide)) (fun _ hk => hk.2) (.slice Ao125 t343.length co125)) (fun _ hk => hk.2) (.slice Ao131 t346.length co131)) (fun _ h_ => h_.1)))); (case side8 => exact (Kd.R_reads' Q306_1.1).2.1); rintro e w153 ⟨rfl, hb⟩; refine ⟨_, rfl, ?_⟩; have n0_ := Aside0.mk (Kd.R_below (by (with_reducible repeat (first | apply Kd.R_alloc | apply Kd.R_drewN | apply Kd.R_drew)); exact (Kd.R_mono (Kd.R_far (p := ⟨gb350, 1, none⟩) (Kd.R_far (p := ⟨gb350, 0, none⟩) (Kd.R_types Q306_0.1 BK350.1 (by decide)) (fun _ hk => hk.2) (.slice Ao125 t343.length co125)) (fun _ hk => hk.2) (.slice Ao131 t346.length co131)) (fun _ h_ => h_.1))) hb); have n1_ := Aside0.mk (Kd.R_below (by (with_reducible repeat (first | apply Kd.R_alloc | apply Kd.R_drewN | apply Kd.R_drew)); exact (Kd.R_mono (Kd.R_far (p := ⟨gb350, 1, none⟩) (Kd.R_far (p := ⟨gb350, 0, none⟩) (Kd.R_types Q306_1.1 BK350.1 (by decide)) (fun _ hk => hk.2) (.slice Ao125 t343.length co125)) (fun _ hk => hk.2) (.slice Ao131 t346.length co131)) (fun _ h_ => h_.1))) hb); have n2_ := Aside0.mk (Kd.R_below (by (with_reducible repeat (first | apply Kd.R_alloc | apply Kd.R_drewN | apply Kd.R_drew)); exact (Kd.R_mono (Kd.R_far (p := ⟨gb350, 1, none⟩) (Kd.R_far (p := ⟨gb350, 0, none⟩) (Kd.R_types Q313_0.1 BK350.1 (by decide)) (fun _ hk => hk.2) (.slice Ao125 t343.length co125)) (fun _ hk => hk.2) (.slice Ao131 t346.length co131)) (fun _ h_ => h_.1))) hb); have n3_ := Aside0.mk (Kd.R_below (by (with_reducible repeat (first | apply Kd.R_alloc | apply Kd.R_drewN | apply Kd.R_drew)); exact (Kd.R_mono (Kd.R_far (p := ⟨gb350, 1, none⟩) (Kd.R_far (p := ⟨gb350, 0, none⟩) (Kd.R_types Q313_1.1 BK350.1 (by decide)) (fun _ hk => hk.2) (.slice Ao125 t343.length co125)) (fun _ hk => hk.2) (.slice Ao131 t346.length co131)) (fun _ h_ => h_.1))) hb); have n4_ := Aside0.mk (Kd.R_below (by (with_reducible repeat (first | apply Kd.R_alloc | apply Kd.R_drewN | apply Kd.R_drew)); exact (Kd.R_mono (Kd.R_far (p := ⟨gb350, 1, none⟩) (Kd.R_far (p := ⟨gb350, 0, none⟩) (Kd.R_types Q321_0.1 BK350.1 (by decide)) (fun _ hk => hk.2) (.slice Ao125 t343.length co125)) (fun _ hk => hk.2) (.slice Ao131 t346.length co131)) (fun _ h_ => h_.1))) hb); have n5_ := Aside0.mk (Kd.R_below (by (with_reducible repeat (first | apply Kd.R_alloc | apply Kd.R_drewN | apply Kd.R_drew)); exact (Kd.R_mono (Kd.R_far (p := ⟨gb350, 1, none⟩) (Kd.R_far (p := ⟨gb350, 0, none⟩) (Kd.R_types Q321_1.1 BK350.1 (by decide)) (fun _ hk => hk.2) (.slice Ao125 t343.length co125)) (fun _ hk => hk.2) (.slice Ao131 t346.length co131)) (fun _ h_ => h_.1))) hb); have n6_ := Aside0.mk (Kd.R_below (by (with_reducible repeat (first | apply Kd.R_alloc | apply Kd.R_drewN | apply Kd.R_drew)); exact (Kd.R_mono (Kd.R_far (p := ⟨gb350, 1, none⟩) (Kd.R_far (p := ⟨gb350, 0, none⟩) (Kd.R_types HO339.1 BK350.1 (by decide)) (fun _ hk => hk.2) (.slice Ao125 t343.length co125)) (fun _ hk => hk.2) (.slice Ao131 t346.length co131)) (fun _ h_ => h_.1))) hb); have n7_ := Aside0.mk (Kd.R_below (by (with_reducible repeat (first | apply Kd.R_alloc | apply Kd.R_drewN | apply Kd.R_drew)); exact (Kd.R_mono (Kd.R_far (p := ⟨gb350, 1, none⟩) (Kd.R_far (p := ⟨gb350, 0, none⟩) (Kd.R_types HO342.1 BK350.1 (by decide)) (fun _ hk => hk.2) (.slice Ao125 t343.length co125)) (fun _ hk => hk.2) (.slice Ao131 t346.length co131)) (fun _ h_ => h_.1))) hb); have n8_ := Aside0.mk (Kd.R_below (by (with_reducible repeat (first | apply Kd.R_alloc | apply Kd.R_drewN | apply Kd.R_drew)); exact (Kd.R_mono (Kd.R_far (p := ⟨gb350, 1, none⟩) (Kd.R_far (p := ⟨gb350, 0, none⟩) (Kd.R_types HO345.1 BK350.1 (by decide)) (fun _ hk => hk.2) (.slice Ao125 t343.length co125)) (fun _ hk => hk.2) (.slice Ao131 t346.length co131)) (fun _ h_ => h_.1))) hb); have n9_ := Aside0.mk (Kd.R_below (by (with_reducible repeat (first | apply Kd.R_alloc | apply Kd.R_drewN | apply Kd.R_drew)); exact (Kd.R_mono (Kd.R_far (p := ⟨gb350, 1, none⟩) (Kd.R_far (p := ⟨gb350, 0, none⟩) (Kd.R_types HO348.1 BK350.1 (by decide)) (fun _ hk => hk.2) (.slice Ao125 t343.length co125)) (fun _ hk => hk.2) (.slice Ao131 t346.length co131)) (fun _ h_ => h_.1))) hb); have n10_ := Aside0.mk (blk_below (g := gb290) (o := .cells #[.slice A0_0 l0_0.length c0_0, .slice A0_1 l0_1.length c0_1] 24 (0, 0)) (by (with_reducible repeat (first | refine blk_drewN ?_ _ | refine blk_drew ?_ | refine blk_alloc ?_ _)); refine blk_far ?_ NB290_350.1 _; (with_reducible repeat (first | refine blk_drewN ?_ _ | refine blk_drew ?_ | refine blk_alloc ?_ _)); refine blk_far ?_ NB290_350.1 _; (with_reducible repeat (first | refine blk_drewN ?_ _ | refine blk_drew ?_ | refine blk_alloc ?_ _)); exact BK290.1) hb); have n11_ := Aside0.mk (blk_below (g := gb305) (o := .cells #[.slice Ao22 t298.length co22, .slice Ao25 t301.length co25] 28 (0, 0)) (by (with_reducible repeat (first | refine blk_drewN ?_ _ | refine blk_drew ?_ | refine blk_alloc ?_ _)); refine blk_far ?_ NB305_350.1 _; (with_reducible repeat (first | refine blk_drewN ?_ _ | refine blk_drew ?_ | refine blk_alloc ?_ _)); refine blk_far ?_ NB305_350.1 _; (with_reducible repeat (first | refine blk_drewN ?_ _ | refine blk_drew ?_ | refine blk_alloc ?_ _)); exact BK305.1) hb); have n12_ := Aside0.mk (blk_below (g := gb312) (o := .cells #[.slice Ao29 t330.length co29, .slice Ao33 t331.length co33] 28 (0, 0)) (by (with_reducible repeat (first | refine blk_drewN ?_ _ | refine blk_drew ?_ | refine blk_alloc ?_ _)); refine blk_far ?_ NB312_350.1 _; (with_reducible repeat (first | refine blk_drewN ?_ _ | refine blk_drew ?_ | refine blk_alloc ?_ _)); refine blk_far ?_ NB312_350.1 _; (with_reducible repeat (first | refine blk_drewN ?_ _ | refine blk_drew ?_ | refine blk_alloc ?_ _)); exact BK312.1) hb); have n13_ := Aside0.mk (blk_below (g := gb320) (o := .cells #[.slice Ao36 t313.length co36, .slice Ao41 t316.length co41] 28 (0, 0)) (by (with_reducible repeat (first | refine blk_drewN ?_ _ | refine blk_drew ?_ | refine blk_alloc ?_ _)); refine blk_far ?_ NB320_350.1 _; (with_reducible repeat (first | refine blk_drewN ?_ _ | refine blk_drew ?_ | refine blk_alloc ?_ _)); refine blk_far ?_ NB320_350.1 _; (with_reducible repeat (first | refine blk_drewN ?_ _ | refine blk_drew ?_ | refine blk_alloc ?_ _)); exact BK320.1) hb); have n14_ := Aside0.mk (blk_below (g := gb350) (o := .cells #[.slice Ao125 t343.length co125, .slice Ao131 t346.length co131] 28 (0, 0)) (by (with_reducible repeat (first | refine blk_drewN ?_ _ | refine blk_drew ?_ | refine blk_alloc ?_ _)); refine blk_put (cs := #[.slice Ao125 t343.length co125, .slice none 0 0]) ?_ 1 _ rfl; (with_reducible repeat (first | refine blk_drewN ?_ _ | refine blk_drew ?_ | refine blk_alloc ?_ _)); refine blk_put (cs := #[.slice none 0 0, .slice none 0 0]) ?_ 0 _ rfl; (with_reducible repeat (first | refine blk_drewN ?_ _ | refine blk_drew ?_ | refine blk_alloc ?_ _)); exact BK350.1) hb); have n15_ := Aside0.mk (below_step (by repeat (first | (with_reducible first | exact HB.1 | apply below_alloc | apply pw_below_drewN | apply below_drew1 | refine below_set ?_ GE290.1 | refine below_set ?_ GE305.1 | refine below_set ?_ GE312.1 | refine below_set ?_ GE320.1 | refine below_set ?_ GE350.1) | exact HB.1)) hb); clear Q306_0; clear Q306_1; clear Q313_0; clear Q313_1; clear Q321_0; clear Q321_1; clear HO339; clear HO342; clear HO345; clear HO348; clear BK290; clear BK305; clear BK312; clear BK320; clear BK350; clear HB; have Q306_0 := n0_; have Q306_1 := n1_; have Q313_0 := n2_; have Q313_1 := n3_; have Q321_0 := n4_; have Q321_1 := n5_; have HO339 := n6_; have HO342 := n7_; have HO345 := n8_; have HO348 := n9_; have BK290 := n10_; have BK305 := n11_; have BK312 := n12_; have BK320 := n13_; have BK350 := n14_; have HB := n15_; clear n0_ n1_ n2_ n3_ n4_ n5_ n6_ n7_ n8_ n9_ n10_ n11_ n12_ n13_ n14_ n15_; (try clear hb); (try clear hb2); (try clear hk); (try clear hi)))
             go_meet
             case rel => exact ⟨_, (true), (by first | rfl | (simp; done) | (simp [*]; done) | (simp [Go.IntWalk.i64_left]; done)), H', ⟨by have := HJ11.1; have := HJ64.1; first | omega | exact Nat.le_refl _⟩, ⟨by (try simp only [hl313000_64]); (try simp only [hl313001_64]); (with_reducible repeat (first | apply Kd.R_alloc | apply Kd.R_drewN | apply Kd.R_drew)); exact Kd.R_mono Q306_0.1 (fun _ hk => ⟨hk.1.1.1.1.1, ⟨hk.1.1.1.1.2.1, ⟨hk.1.1.1.1.2.2.1, ⟨hk.1.1.1.1.2.2.2.1, ⟨hk.1.1.1.1.2.2.2.2, ⟨hk.1.2, hk.2⟩⟩⟩⟩⟩⟩)⟩, ⟨by (try simp only [hl313000_64]); (try simp only [hl313001_64]); (with_reducible repeat (first | apply Kd.R_alloc | apply Kd.R_drewN | apply Kd.R_drew)); exact Kd.R_mono Q306_1.1 (fun _ hk => ⟨hk.1.1.1.1.1, ⟨hk.1.1.1.1.2.1, ⟨hk.1.1.1.1.2.2.1, ⟨hk.1.1.1.1.2.2.2.1, ⟨hk.1.1.1.1.2.2.2.2, ⟨hk.1.2, hk.2⟩⟩⟩⟩⟩⟩)⟩, ⟨by (try simp only [hl313000_64]); (try simp only [hl313001_64]); (with_reducible repeat (first | apply Kd.R_alloc | apply Kd.R_drewN | apply Kd.R_drew)); exact Kd.R_mono Q313_0.1 (fun _ hk => ⟨hk.1.1.1.1.1, ⟨hk.1.1.1.1.2.1, ⟨hk.1.1.1.1.2.2.1, ⟨hk.1.1.1.1.2.2.2.1, ⟨hk.1.1.1.1.2.2.2.2, ⟨hk.1.2, hk.2⟩⟩⟩⟩⟩⟩)⟩, ⟨by (try simp only [hl313000_64]); (try simp only [hl313001_64]); (with_reducible repeat (first | apply Kd.R_alloc | apply Kd.R_drewN | apply Kd.R_drew)); exact Kd.R_mono Q313_1.1 (fun _ hk => ⟨hk.1.1.1.1.1, ⟨hk.1.1.1.1.2.1, ⟨hk.1.1.1.1.2.2.1, ⟨hk.1.1.1.1.2.2.2.1, ⟨hk.1.1.1.1.2.2.2.2, ⟨hk.1.2, hk.2⟩⟩⟩⟩⟩⟩)⟩, ⟨by (try simp only [hl313000_64]); (try simp only [hl313001_64]); (with_reducible repeat (first | apply Kd.R_alloc | apply Kd.R_drewN | apply Kd.R_drew)); exact Kd.R_mono Q321_0.1 (fun _ hk => ⟨hk.1.1.1.1.1, ⟨hk.1.1.1.1.2.1, ⟨hk.1.1.1.1.2.2.1, ⟨hk.1.1.1.1.2.2.2.1, ⟨hk.1.1.1.1.2.2.2.2, ⟨hk.1.2, hk.2⟩⟩⟩⟩⟩⟩)⟩, ⟨by (try simp only [hl313000_64]); (try simp only [hl313001_64]); (with_reducible repeat (first | apply Kd.R_alloc | apply Kd.R_drewN | apply Kd.R_drew)); exact Kd.R_mono Q321_1.1 (fun _ hk => ⟨hk.1.1.1.1.1, ⟨hk.1.1.1.1.2.1, ⟨hk.1.1.1.1.2.2.1, ⟨hk.1.1.1.1.2.2.2.1, ⟨hk.1.1.1.1.2.2.2.2, ⟨hk.1.2, hk.2⟩⟩⟩⟩⟩⟩)⟩, ⟨by (try simp only [hl313000_64]); (try simp only [hl313001_64]); (with_reducible repeat (first | apply Kd.R_alloc | apply Kd.R_drewN | apply Kd.R_drew)); exact Kd.R_mono HO345.1 (fun _ hk => ⟨hk.1.1.1.1.1.1.1.2, ⟨hk.1.1.1.1.1.1.2, ⟨hk.1.1.1.1.1.2, ⟨hk.1.1.1.1.2, ⟨hk.1.1.1.2, ⟨hk.1.1.2, hk.1.1.1.1.1.1.1.1⟩⟩⟩⟩⟩⟩)⟩, ⟨by (try simp only [hl313000_64]); (try simp only [hl313001_64]); (with_reducible repeat (first | apply Kd.R_alloc | apply Kd.R_drewN | apply Kd.R_drew)); exact Kd.R_mono HO348.1 (fun _ hk => ⟨hk.1.1.1.1.1.1.1.2, ⟨hk.1.1.1.1.1.1.2, ⟨hk.1.1.1.1.1.2, ⟨hk.1.1.1.1.2, ⟨hk.1.1.1.2, ⟨hk.1.1.2, hk.1.1.1.1.1.1.1.1⟩⟩⟩⟩⟩⟩)⟩, ⟨by (try simp only [hl313000_64]); (try simp only [hl313001_64]); (with_reducible repeat (first | refine blk_drewN ?_ _ | refine blk_drew ?_ | refine blk_alloc ?_ _)); exact BK290.1⟩, ⟨by (try simp only [hl313000_64]); (try simp only [hl313001_64]); (with_reducible repeat (first | refine blk_drewN ?_ _ | refine blk_drew ?_ | refine blk_alloc ?_ _)); exact BK305.1⟩, ⟨by (try simp only [hl313000_64]); (try simp only [hl313001_64]); (with_reducible repeat (first | refine blk_drewN ?_ _ | refine blk_drew ?_ | refine blk_alloc ?_ _)); exact BK312.1⟩, ⟨by (try simp only [hl313000_64]); (try simp only [hl313001_64]); (with_reducible repeat (first | refine blk_drewN ?_ _ | refine blk_drew ?_ | refine blk_alloc ?_ _)); exact BK320.1⟩, ⟨by (try simp only [hl313000_64]); (try simp only [hl313001_64]); (with_reducible repeat (first | refine blk_drewN ?_ _ | refine blk_drew ?_ | refine blk_alloc ?_ _)); exact BK350.1⟩, ⟨by repeat (first | (with_reducible first | exact HB.1 | apply below_alloc | apply pw_below_drewN | apply below_drew1 | refine below_set ?_ GE290.1 | refine below_set ?_ GE305.1 | refine below_set ?_ GE312.1 | refine below_set ?_ GE320.1 | refine below_set ?_ GE350.1) | exact HB.1)⟩⟩
           case rest =>
            clear HC109
            try clear c1
            try clear c2
            try clear p2
            try clear c3
            try clear c4
            try clear c4b0
            try clear c5
            try clear c6
            try clear c7
            try clear c8
            try clear c9
            try clear c10
            try clear c11
            try clear c12
            try clear c13
            try clear c14
            try clear c15
            try clear c17
            try clear c19
            try clear c23
            try clear c28
            try clear c29
            try clear c30
            try clear c31
            try clear c37
            try clear c38
            try clear c39
            try clear c42
            try clear c43
            try clear c44
            try clear c45
            try clear c46
            try clear c48
            try clear c49
            try clear c52
            try clear c53
            try clear c54
            try clear c56
            try clear c57
            try clear c60
            try clear c63
            try clear c71
            try clear c72
            try clear c73
            try clear c76
            try clear c76b0
            try clear c78
            try clear c79
            try clear c80
            try clear c81
            try clear c83
            try clear c84
            try clear c87
            try clear c88
            try clear c89
            try clear c91
            try clear c92
            try clear c95
            try clear c98
            try clear c98b0
            try clear c99
            try clear c100
            try clear c101
            try clear c106
            try clear c106b0
            try clear c106b1
            try clear c110
            try clear c111
            try clear c112
            try clear c117
            try clear c118
            try clear c126
            try clear c127
            try clear c128
            try clear c129
            try clear c133
            try clear c134
            try clear c135
            try clear c136
            try clear c137
            try clear c139
            try clear c140
            try clear c141
            try clear c144
            try clear c145
            try clear c146
            try clear c147
            try clear c149
            try clear c150
            try clear c151
            try clear hcz102_0
            try clear hcz102_1
            try clear hcz104_0
            try clear hcz104_1
            try clear hcz113_0
            try clear hcz113_1
            try clear hcz115_0
            try clear hcz115_1
            try clear hcz119_0
            try clear hcz119_1
            try clear hcz130_0
            try clear hcz130_1
            try clear hcz138_0
            try clear hcz138_1
            try clear hcz142_0
            try clear hcz142_1
            try clear hcz148_0
            try clear hcz148_1
            try clear hcz14_0
            try clear hcz14_1
            try clear hcz152_0
            try clear hcz152_1
            try clear hcz16_0
            try clear hcz16_1
            try clear hcz24_0
            try clear hcz24_1
            try clear hcz26_0
            try clear hcz26_1
            try clear hcz32_0
            try clear hcz32_1
            try clear hcz40_0
            try clear hcz40_1
            try clear hcz47_0
            try clear hcz47_1
            try clear hcz50_0
            try clear hcz50_1
            try clear hcz55_0
            try clear hcz55_1
            try clear hcz58_0
            try clear hcz58_1
            try clear hcz6_0
            try clear hcz6_1
            try clear hcz74_0
            try clear hcz74_1
            try clear hcz82_0
            try clear hcz82_1
            try clear hcz85_0
            try clear hcz85_1
            try clear hcz90_0
            try clear hcz90_1
            try clear hcz93_0
            try clear hcz93_1
            try clear hfz102_0
            try clear hfz102_1
            try clear hfz104_0
            try clear hfz104_1
            try clear hfz113_0
            try clear hfz113_1
            try clear hfz115_0
            try clear hfz115_1
            try clear hfz119_0
            try clear hfz119_1
            try clear hfz130_0
            try clear hfz130_1
            try clear hfz138_0
            try clear hfz138_1
            try clear hfz142_0
            try clear hfz142_1
            try clear hfz148_0
            try clear hfz148_1
            try clear hfz14_0
            try clear hfz14_1
            try clear hfz152_0
            try clear hfz152_1
            try clear hfz16_0
            try clear hfz16_1
            try clear hfz24_0
            try clear hfz24_1
            try clear hfz26_0
            try clear hfz26_1
            try clear hfz32_0
            try clear hfz32_1
            try clear hfz40_0
            try clear hfz40_1
            try clear hfz47_0
            try clear hfz47_1
            try clear hfz50_0
            try clear hfz50_1
            try clear hfz55_0
            try clear hfz55_1
            try clear hfz58_0
            try clear hfz58_1
            try clear hfz6_0
            try clear hfz6_1
            try clear hfz74_0
            try clear hfz74_1
            try clear hfz82_0
            try clear hfz82_1
            try clear hfz85_0
            try clear hfz85_1
            try clear hfz90_0
            try clear hfz90_1
            try clear hfz93_0
            try clear hfz93_1
            try clear p2
            obtain ⟨kq, x92_108, rfl, HA, HJ108, Q306_0, Q306_1, Q313_0, Q313_1, Q321_0, Q321_1, Q351_0, Q351_1, BK290, BK305, BK312, BK320, BK350, HB⟩ := hcut
            have hl321000_108 := (Kd.R_reads' Q321_0.1).1
            rw [hl321000_108] at Q321_0
            (try simp only [hl321000_108])
            (try simp only [hl321000_108] at BK290)
            (try simp only [hl321000_108] at BK305)
            (try simp only [hl321000_108] at BK312)
            (try simp only [hl321000_108] at BK320)
            (try simp only [hl321000_108] at BK350)
            (try simp only [hl321000_108] at Q306_0)
            (try simp only [hl321000_108] at Q306_1)
            (try simp only [hl321000_108] at Q313_0)
            (try simp only [hl321000_108] at Q313_1)
            (try simp only [hl321000_108] at Q321_1)
            (try simp only [hl321000_108] at Q351_0)
            (try simp only [hl321000_108] at Q351_1)
            have hl321001_108 := (Kd.R_reads' Q321_1.1).1
            rw [hl321001_108] at Q321_1
            (try simp only [hl321001_108])
            (try simp only [hl321001_108] at BK290)
            (try simp only [hl321001_108] at BK305)
            (try simp only [hl321001_108] at BK312)
            (try simp only [hl321001_108] at BK320)
            (try simp only [hl321001_108] at BK350)
            (try simp only [hl321001_108] at Q306_0)
            (try simp only [hl321001_108] at Q306_1)
            (try simp only [hl321001_108] at Q313_0)
            (try simp only [hl321001_108] at Q313_1)
            (try simp only [hl321001_108] at Q321_0)
            (try simp only [hl321001_108] at Q351_0)
            (try simp only [hl321001_108] at Q351_1)
            cases kq with
            | zero => exact absurd HA.1 (by simp [laws_FnExactWorstGloves.j2])
            | succ kj108 =>
             have H := HA.1
             clear HA
             simp only [laws_FnExactWorstGloves.j2] at H
             by_cases c154 : x92_108 = true
             ·subst c154
              have H1 : (some false) = some r := by rw [if_pos rfl] at H; exact H
              clear H
              have H := H1
              clear H1
              obtain rfl := Option.some.inj H
              go_wp2
              go_ret
              exact ⟨by first | rfl | (simp [errW_none, errW_some] <;> rfl) | (simp [Go.IntWalk.i64_left]; done) | (simp [*, errW_none, errW_some] <;> rfl), by repeat (first | (with_reducible first | exact HB.1 | apply below_alloc | apply pw_below_drewN | apply below_drew1 | refine below_set ?_ GE290.1 | refine below_set ?_ GE305.1 | refine below_set ?_ GE312.1 | refine below_set ?_ GE320.1 | refine below_set ?_ GE350.1) | exact HB.1)⟩
             ·replace c154 := Bool.eq_false_iff.mpr c154
              subst c154
              have H1 : ((laws_heldGloves.f kj108 t334 t335 1).bind fun t352 => (if t352 < 0 then (some false) else (if t352 = t333 then (some true) else (some false)))) = some r := by rw [if_neg (show ¬ (false = true) by decide)] at H; exact H
              clear H
              have H := H1
              clear H1
              replace H := Option.bind_eq_some_iff.mp H
              obtain ⟨t352, A1550, H⟩ := H
              replace H : (if t352 < 0 then (some false) else (if t352 = t333 then (some true) else (some false))) = some r := H
              have A155 := Aside0.mk A1550
              clear A1550
              by_cases c156 : t352 < 0
              ·rw [if_pos c156] at H
               have c156b0 : decide (t352 < 0) = true := decide_eq_true c156
               clear c156
               obtain rfl := Option.some.inj H
               have hnb157 := NB320_290.1
               have hnc157 := NB290_320.1
               have hnb158 := NB320_305.1
               have hnc158 := NB305_320.1
               have hnb159 := NB320_312.1
               have hnc159 := NB312_320.1
               have hnb160 := NB320_350.1
               have hnc160 := NB350_320.1
               have hcz161_0 : wc.cell? ⟨gb320, 0, none⟩ = some (.slice Ao36 t334.length co36) := (blk_cell BK320.1 0).trans rfl
               have hcz161_1 : wc.cell? ⟨gb320, 1, none⟩ = some (.slice Ao41 t335.length co41) := (blk_cell BK320.1 1).trans rfl
               have hfz161_0 := blk_frozen BK320.1 0
               have hfz161_1 := blk_frozen BK320.1 1
               go_wp2_with (first | ((with_reducible refine gate_callee (f := 29) rfl ?_); refine goesL_ (some 95) rfl rfl Try.func29 (by kernel_rfl) rfl #[.agg #[.slice Ao36 t334.length co36, .slice Ao41 t335.length co41], .int .i64 1] rfl (by (try simp only [List.map_toArray, List.map_cons, List.map_nil]); first | done | rfl | (simp only [List.length_drop, List.length_take]; rfl)) ?_; (with_reducible refine (laws_heldGloves.calls kj108 _ _ t334 _ _ t335 1 t352 _ ?side1 ?side2 ?side3 ?side4 A155.1).mono ?_); (case side1 => repeat (first | exact (Kd.R_reads' Q321_0.1).2.2 | (with_reducible refine Kd.C_alloc ?_ _) | (with_reducible refine Kd.C_drewN ?_ _) | (with_reducible refine Kd.C_drew ?_))); (case side2 => exact (Kd.R_reads' Q321_0.1).2.1); (case side3 => repeat (first | exact (Kd.R_reads' Q321_1.1).2.2 | (with_reducible refine Kd.C_alloc ?_ _) | (with_reducible refine Kd.C_drewN ?_ _) | (with_reducible refine Kd.C_drew ?_))); (case side4 => exact (Kd.R_reads' Q321_1.1).2.1); rintro e w162 ⟨rfl, hb⟩; refine ⟨_, rfl, ?_⟩; have n0_ := Aside0.mk (Kd.R_below (by (with_reducible repeat (first | apply Kd.R_alloc | apply Kd.R_drewN | apply Kd.R_drew)); exact Q306_0.1) hb); have n1_ := Aside0.mk (Kd.R_below (by (with_reducible repeat (first | apply Kd.R_alloc | apply Kd.R_drewN | apply Kd.R_drew)); exact Q306_1.1) hb); have n2_ := Aside0.mk (Kd.R_below (by (with_reducible repeat (first | apply Kd.R_alloc | apply Kd.R_drewN | apply Kd.R_drew)); exact Q313_0.1) hb); have n3_ := Aside0.mk (Kd.R_below (by (with_reducible repeat (first | apply Kd.R_alloc | apply Kd.R_drewN | apply Kd.R_drew)); exact Q313_1.1) hb); have n4_ := Aside0.mk (Kd.R_below (by (with_reducible repeat (first | apply Kd.R_alloc | apply Kd.R_drewN | apply Kd.R_drew)); exact Q321_0.1) hb); have n5_ := Aside0.mk (Kd.R_below (by (with_reducible repeat (first | apply Kd.R_alloc | apply Kd.R_drewN | apply Kd.R_drew)); exact Q321_1.1) hb); have n6_ := Aside0.mk (Kd.R_below (by (with_reducible repeat (first | apply Kd.R_alloc | apply Kd.R_drewN | apply Kd.R_drew)); exact Q351_0.1) hb); have n7_ := Aside0.mk (Kd.R_below (by (with_reducible repeat (first | apply Kd.R_alloc | apply Kd.R_drewN | apply Kd.R_drew)); exact Q351_1.1) hb); have n8_ := Aside0.mk (blk_below (g := gb290) (o := .cells #[.slice A0_0 l0_0.length c0_0, .slice A0_1 l0_1.length c0_1] 24 (0, 0)) (by (with_reducible repeat (first | refine blk_drewN ?_ _ | refine blk_drew ?_ | refine blk_alloc ?_ _)); exact BK290.1) hb); have n9_ := Aside0.mk (blk_below (g := gb305) (o := .cells #[.slice Ao22 t298.length co22, .slice Ao25 t301.length co25] 28 (0, 0)) (by (with_reducible repeat (first | refine blk_drewN ?_ _ | refine blk_drew ?_ | refine blk_alloc ?_ _)); exact BK305.1) hb); have n10_ := Aside0.mk (blk_below (g := gb312) (o := .cells #[.slice Ao29 t330.length co29, .slice Ao33 t331.length co33] 28 (0, 0)) (by (with_reducible repeat (first | refine blk_drewN ?_ _ | refine blk_drew ?_ | refine blk_alloc ?_ _)); exact BK312.1) hb); have n11_ := Aside0.mk (blk_below (g := gb320) (o := .cells #[.slice Ao36 t334.length co36, .slice Ao41 t335.length co41] 28 (0, 0)) (by (with_reducible repeat (first | refine blk_drewN ?_ _ | refine blk_drew ?_ | refine blk_alloc ?_ _)); exact BK320.1) hb); have n12_ := Aside0.mk (blk_below (g := gb350) (o := .cells #[.slice Ao125 t343.length co125, .slice Ao131 t346.length co131] 28 (0, 0)) (by (with_reducible repeat (first | refine blk_drewN ?_ _ | refine blk_drew ?_ | refine blk_alloc ?_ _)); exact BK350.1) hb); have n13_ := Aside0.mk (below_step (by repeat (first | (with_reducible first | exact HB.1 | apply below_alloc | apply pw_below_drewN | apply below_drew1 | refine below_set ?_ GE290.1 | refine below_set ?_ GE305.1 | refine below_set ?_ GE312.1 | refine below_set ?_ GE320.1 | refine below_set ?_ GE350.1) | exact HB.1)) hb); clear Q306_0; clear Q306_1; clear Q313_0; clear Q313_1; clear Q321_0; clear Q321_1; clear Q351_0; clear Q351_1; clear BK290; clear BK305; clear BK312; clear BK320; clear BK350; clear HB; have Q306_0 := n0_; have Q306_1 := n1_; have Q313_0 := n2_; have Q313_1 := n3_; have Q321_0 := n4_; have Q321_1 := n5_; have Q351_0 := n6_; have Q351_1 := n7_; have BK290 := n8_; have BK305 := n9_; have BK312 := n10_; have BK320 := n11_; have BK350 := n12_; have HB := n13_; clear n0_ n1_ n2_ n3_ n4_ n5_ n6_ n7_ n8_ n9_ n10_ n11_ n12_ n13_; (try clear hb); (try clear hb2); (try clear hk); (try clear hi)))
               go_ret
               exact ⟨by first | rfl | (simp [errW_none, errW_some] <;> rfl) | (simp [Go.IntWalk.i64_left]; done) | (simp [*, errW_none, errW_some] <;> rfl), by repeat (first | (with_reducible first | exact HB.1 | apply below_alloc | apply pw_below_drewN | apply below_drew1 | refine below_set ?_ GE290.1 | refine below_set ?_ GE305.1 | refine below_set ?_ GE312.1 | refine below_set ?_ GE320.1 | refine below_set ?_ GE350.1) | exact HB.1)⟩
              ·rw [if_neg c156] at H
               have c156b0 : decide (t352 < 0) = false := decide_eq_false c156
               clear c156
               by_cases c163 : t352 = t333
               ·rw [if_pos c163] at H
                have c163b0 : (t352 == t333) = true := beq_iff_eq.mpr c163
                have c163b1 : (t352 != t333) = false := bne_eq_false_iff_eq.mpr c163
                clear c163
                obtain rfl := Option.some.inj H
                have hnb164 := NB320_290.1
                have hnc164 := NB290_320.1
                have hnb165 := NB320_305.1
                have hnc165 := NB305_320.1
                have hnb166 := NB320_312.1
                have hnc166 := NB312_320.1
                have hnb167 := NB320_350.1
                have hnc167 := NB350_320.1
                have hcz168_0 : wc.cell? ⟨gb320, 0, none⟩ = some (.slice Ao36 t334.length co36) := (blk_cell BK320.1 0).trans rfl
                have hcz168_1 : wc.cell? ⟨gb320, 1, none⟩ = some (.slice Ao41 t335.length co41) := (blk_cell BK320.1 1).trans rfl
                have hfz168_0 := blk_frozen BK320.1 0
                have hfz168_1 := blk_frozen BK320.1 1
                go_wp2_with (first | ((with_reducible refine gate_callee (f := 29) rfl ?_); refine goesL_ (some 95) rfl rfl Try.func29 (by kernel_rfl) rfl #[.agg #[.slice Ao36 t334.length co36, .slice Ao41 t335.length co41], .int .i64 1] rfl (by (try simp only [List.map_toArray, List.map_cons, List.map_nil]); first | done | rfl | (simp only [List.length_drop, List.length_take]; rfl)) ?_; (with_reducible refine (laws_heldGloves.calls kj108 _ _ t334 _ _ t335 1 t352 _ ?side1 ?side2 ?side3 ?side4 A155.1).mono ?_); (case side1 => repeat (first | exact (Kd.R_reads' Q321_0.1).2.2 | (with_reducible refine Kd.C_alloc ?_ _) | (with_reducible refine Kd.C_drewN ?_ _) | (with_reducible refine Kd.C_drew ?_))); (case side2 => exact (Kd.R_reads' Q321_0.1).2.1); (case side3 => repeat (first | exact (Kd.R_reads' Q321_1.1).2.2 | (with_reducible refine Kd.C_alloc ?_ _) | (with_reducible refine Kd.C_drewN ?_ _) | (with_reducible refine Kd.C_drew ?_))); (case side4 => exact (Kd.R_reads' Q321_1.1).2.1); rintro e w169 ⟨rfl, hb⟩; refine ⟨_, rfl, ?_⟩; have n0_ := Aside0.mk (Kd.R_below (by (with_reducible repeat (first | apply Kd.R_alloc | apply Kd.R_drewN | apply Kd.R_drew)); exact Q306_0.1) hb); have n1_ := Aside0.mk (Kd.R_below (by (with_reducible repeat (first | apply Kd.R_alloc | apply Kd.R_drewN | apply Kd.R_drew)); exact Q306_1.1) hb); have n2_ := Aside0.mk (Kd.R_below (by (with_reducible repeat (first | apply Kd.R_alloc | apply Kd.R_drewN | apply Kd.R_drew)); exact Q313_0.1) hb); have n3_ := Aside0.mk (Kd.R_below (by (with_reducible repeat (first | apply Kd.R_alloc | apply Kd.R_drewN | apply Kd.R_drew)); exact Q313_1.1) hb); have n4_ := Aside0.mk (Kd.R_below (by (with_reducible repeat (first | apply Kd.R_alloc | apply Kd.R_drewN | apply Kd.R_drew)); exact Q321_0.1) hb); have n5_ := Aside0.mk (Kd.R_below (by (with_reducible repeat (first | apply Kd.R_alloc | apply Kd.R_drewN | apply Kd.R_drew)); exact Q321_1.1) hb); have n6_ := Aside0.mk (Kd.R_below (by (with_reducible repeat (first | apply Kd.R_alloc | apply Kd.R_drewN | apply Kd.R_drew)); exact Q351_0.1) hb); have n7_ := Aside0.mk (Kd.R_below (by (with_reducible repeat (first | apply Kd.R_alloc | apply Kd.R_drewN | apply Kd.R_drew)); exact Q351_1.1) hb); have n8_ := Aside0.mk (blk_below (g := gb290) (o := .cells #[.slice A0_0 l0_0.length c0_0, .slice A0_1 l0_1.length c0_1] 24 (0, 0)) (by (with_reducible repeat (first | refine blk_drewN ?_ _ | refine blk_drew ?_ | refine blk_alloc ?_ _)); exact BK290.1) hb); have n9_ := Aside0.mk (blk_below (g := gb305) (o := .cells #[.slice Ao22 t298.length co22, .slice Ao25 t301.length co25] 28 (0, 0)) (by (with_reducible repeat (first | refine blk_drewN ?_ _ | refine blk_drew ?_ | refine blk_alloc ?_ _)); exact BK305.1) hb); have n10_ := Aside0.mk (blk_below (g := gb312) (o := .cells #[.slice Ao29 t330.length co29, .slice Ao33 t331.length co33] 28 (0, 0)) (by (with_reducible repeat (first | refine blk_drewN ?_ _ | refine blk_drew ?_ | refine blk_alloc ?_ _)); exact BK312.1) hb); have n11_ := Aside0.mk (blk_below (g := gb320) (o := .cells #[.slice Ao36 t334.length co36, .slice Ao41 t335.length co41] 28 (0, 0)) (by (with_reducible repeat (first | refine blk_drewN ?_ _ | refine blk_drew ?_ | refine blk_alloc ?_ _)); exact BK320.1) hb); have n12_ := Aside0.mk (blk_below (g := gb350) (o := .cells #[.slice Ao125 t343.length co125, .slice Ao131 t346.length co131] 28 (0, 0)) (by (with_reducible repeat (first | refine blk_drewN ?_ _ | refine blk_drew ?_ | refine blk_alloc ?_ _)); exact BK350.1) hb); have n13_ := Aside0.mk (below_step (by repeat (first | (with_reducible first | exact HB.1 | apply below_alloc | apply pw_below_drewN | apply below_drew1 | refine below_set ?_ GE290.1 | refine below_set ?_ GE305.1 | refine below_set ?_ GE312.1 | refine below_set ?_ GE320.1 | refine below_set ?_ GE350.1) | exact HB.1)) hb); clear Q306_0; clear Q306_1; clear Q313_0; clear Q313_1; clear Q321_0; clear Q321_1; clear Q351_0; clear Q351_1; clear BK290; clear BK305; clear BK312; clear BK320; clear BK350; clear HB; have Q306_0 := n0_; have Q306_1 := n1_; have Q313_0 := n2_; have Q313_1 := n3_; have Q321_0 := n4_; have Q321_1 := n5_; have Q351_0 := n6_; have Q351_1 := n7_; have BK290 := n8_; have BK305 := n9_; have BK312 := n10_; have BK320 := n11_; have BK350 := n12_; have HB := n13_; clear n0_ n1_ n2_ n3_ n4_ n5_ n6_ n7_ n8_ n9_ n10_ n11_ n12_ n13_; (try clear hb); (try clear hb2); (try clear hk); (try clear hi)))
                go_ret
                exact ⟨by first | rfl | (simp [errW_none, errW_some] <;> rfl) | (simp [Go.IntWalk.i64_left]; done) | (simp [*, errW_none, errW_some] <;> rfl), by repeat (first | (with_reducible first | exact HB.1 | apply below_alloc | apply pw_below_drewN | apply below_drew1 | refine below_set ?_ GE290.1 | refine below_set ?_ GE305.1 | refine below_set ?_ GE312.1 | refine below_set ?_ GE320.1 | refine below_set ?_ GE350.1) | exact HB.1)⟩
               ·rw [if_neg c163] at H
                have c163b0 : (t352 == t333) = false := beq_eq_false_iff_ne.mpr c163
                have c163b1 : (t352 != t333) = true := bne_iff_ne.mpr c163
                obtain rfl := Option.some.inj H
                have hnb170 := NB320_290.1
                have hnc170 := NB290_320.1
                have hnb171 := NB320_305.1
                have hnc171 := NB305_320.1
                have hnb172 := NB320_312.1
                have hnc172 := NB312_320.1
                have hnb173 := NB320_350.1
                have hnc173 := NB350_320.1
                have hcz174_0 : wc.cell? ⟨gb320, 0, none⟩ = some (.slice Ao36 t334.length co36) := (blk_cell BK320.1 0).trans rfl
                have hcz174_1 : wc.cell? ⟨gb320, 1, none⟩ = some (.slice Ao41 t335.length co41) := (blk_cell BK320.1 1).trans rfl
                have hfz174_0 := blk_frozen BK320.1 0
                have hfz174_1 := blk_frozen BK320.1 1
                go_wp2_with (first | ((with_reducible refine gate_callee (f := 29) rfl ?_); refine goesL_ (some 95) rfl rfl Try.func29 (by kernel_rfl) rfl #[.agg #[.slice Ao36 t334.length co36, .slice Ao41 t335.length co41], .int .i64 1] rfl (by (try simp only [List.map_toArray, List.map_cons, List.map_nil]); first | done | rfl | (simp only [List.length_drop, List.length_take]; rfl)) ?_; (with_reducible refine (laws_heldGloves.calls kj108 _ _ t334 _ _ t335 1 t352 _ ?side1 ?side2 ?side3 ?side4 A155.1).mono ?_); (case side1 => repeat (first | exact (Kd.R_reads' Q321_0.1).2.2 | (with_reducible refine Kd.C_alloc ?_ _) | (with_reducible refine Kd.C_drewN ?_ _) | (with_reducible refine Kd.C_drew ?_))); (case side2 => exact (Kd.R_reads' Q321_0.1).2.1); (case side3 => repeat (first | exact (Kd.R_reads' Q321_1.1).2.2 | (with_reducible refine Kd.C_alloc ?_ _) | (with_reducible refine Kd.C_drewN ?_ _) | (with_reducible refine Kd.C_drew ?_))); (case side4 => exact (Kd.R_reads' Q321_1.1).2.1); rintro e w175 ⟨rfl, hb⟩; refine ⟨_, rfl, ?_⟩; have n0_ := Aside0.mk (Kd.R_below (by (with_reducible repeat (first | apply Kd.R_alloc | apply Kd.R_drewN | apply Kd.R_drew)); exact Q306_0.1) hb); have n1_ := Aside0.mk (Kd.R_below (by (with_reducible repeat (first | apply Kd.R_alloc | apply Kd.R_drewN | apply Kd.R_drew)); exact Q306_1.1) hb); have n2_ := Aside0.mk (Kd.R_below (by (with_reducible repeat (first | apply Kd.R_alloc | apply Kd.R_drewN | apply Kd.R_drew)); exact Q313_0.1) hb); have n3_ := Aside0.mk (Kd.R_below (by (with_reducible repeat (first | apply Kd.R_alloc | apply Kd.R_drewN | apply Kd.R_drew)); exact Q313_1.1) hb); have n4_ := Aside0.mk (Kd.R_below (by (with_reducible repeat (first | apply Kd.R_alloc | apply Kd.R_drewN | apply Kd.R_drew)); exact Q321_0.1) hb); have n5_ := Aside0.mk (Kd.R_below (by (with_reducible repeat (first | apply Kd.R_alloc | apply Kd.R_drewN | apply Kd.R_drew)); exact Q321_1.1) hb); have n6_ := Aside0.mk (Kd.R_below (by (with_reducible repeat (first | apply Kd.R_alloc | apply Kd.R_drewN | apply Kd.R_drew)); exact Q351_0.1) hb); have n7_ := Aside0.mk (Kd.R_below (by (with_reducible repeat (first | apply Kd.R_alloc | apply Kd.R_drewN | apply Kd.R_drew)); exact Q351_1.1) hb); have n8_ := Aside0.mk (blk_below (g := gb290) (o := .cells #[.slice A0_0 l0_0.length c0_0, .slice A0_1 l0_1.length c0_1] 24 (0, 0)) (by (with_reducible repeat (first | refine blk_drewN ?_ _ | refine blk_drew ?_ | refine blk_alloc ?_ _)); exact BK290.1) hb); have n9_ := Aside0.mk (blk_below (g := gb305) (o := .cells #[.slice Ao22 t298.length co22, .slice Ao25 t301.length co25] 28 (0, 0)) (by (with_reducible repeat (first | refine blk_drewN ?_ _ | refine blk_drew ?_ | refine blk_alloc ?_ _)); exact BK305.1) hb); have n10_ := Aside0.mk (blk_below (g := gb312) (o := .cells #[.slice Ao29 t330.length co29, .slice Ao33 t331.length co33] 28 (0, 0)) (by (with_reducible repeat (first | refine blk_drewN ?_ _ | refine blk_drew ?_ | refine blk_alloc ?_ _)); exact BK312.1) hb); have n11_ := Aside0.mk (blk_below (g := gb320) (o := .cells #[.slice Ao36 t334.length co36, .slice Ao41 t335.length co41] 28 (0, 0)) (by (with_reducible repeat (first | refine blk_drewN ?_ _ | refine blk_drew ?_ | refine blk_alloc ?_ _)); exact BK320.1) hb); have n12_ := Aside0.mk (blk_below (g := gb350) (o := .cells #[.slice Ao125 t343.length co125, .slice Ao131 t346.length co131] 28 (0, 0)) (by (with_reducible repeat (first | refine blk_drewN ?_ _ | refine blk_drew ?_ | refine blk_alloc ?_ _)); exact BK350.1) hb); have n13_ := Aside0.mk (below_step (by repeat (first | (with_reducible first | exact HB.1 | apply below_alloc | apply pw_below_drewN | apply below_drew1 | refine below_set ?_ GE290.1 | refine below_set ?_ GE305.1 | refine below_set ?_ GE312.1 | refine below_set ?_ GE320.1 | refine below_set ?_ GE350.1) | exact HB.1)) hb); clear Q306_0; clear Q306_1; clear Q313_0; clear Q313_1; clear Q321_0; clear Q321_1; clear Q351_0; clear Q351_1; clear BK290; clear BK305; clear BK312; clear BK320; clear BK350; clear HB; have Q306_0 := n0_; have Q306_1 := n1_; have Q313_0 := n2_; have Q313_1 := n3_; have Q321_0 := n4_; have Q321_1 := n5_; have Q351_0 := n6_; have Q351_1 := n7_; have BK290 := n8_; have BK305 := n9_; have BK312 := n10_; have BK320 := n11_; have BK350 := n12_; have HB := n13_; clear n0_ n1_ n2_ n3_ n4_ n5_ n6_ n7_ n8_ n9_ n10_ n11_ n12_ n13_; (try clear hb); (try clear hb2); (try clear hk); (try clear hi)))
                go_ret
                exact ⟨by first | rfl | (simp [errW_none, errW_some] <;> rfl) | (simp [Go.IntWalk.i64_left]; done) | (simp [*, errW_none, errW_some] <;> rfl), by repeat (first | (with_reducible first | exact HB.1 | apply below_alloc | apply pw_below_drewN | apply below_drew1 | refine below_set ?_ GE290.1 | refine below_set ?_ GE305.1 | refine below_set ?_ GE312.1 | refine below_set ?_ GE320.1 | refine below_set ?_ GE350.1) | exact HB.1)⟩
          ·rw [if_neg c106] at H
           have c106b0 : (t336 == t333) = false := beq_eq_false_iff_ne.mpr c106
           have c106b1 : (t336 != t333) = true := bne_iff_ne.mpr c106
           obtain rfl := Option.some.inj H
           have hnb176 := NB320_290.1
           have hnc176 := NB290_320.1
           have hnb177 := NB320_305.1
           have hnc177 := NB305_320.1
           have hnb178 := NB320_312.1
           have hnc178 := NB312_320.1
           have hcz179_0 : wc.cell? ⟨gb320, 0, none⟩ = some (.slice Ao36 t313.length co36) := (blk_cell BK320.1 0).trans rfl
           have hcz179_1 : wc.cell? ⟨gb320, 1, none⟩ = some (.slice Ao41 t316.length co41) := (blk_cell BK320.1 1).trans rfl
           have hfz179_0 := blk_frozen BK320.1 0
           have hfz179_1 := blk_frozen BK320.1 1
           go_wp2_with (first | ((with_reducible refine gate_callee (f := 28) rfl ?_); refine goesL_ (some 68) rfl rfl Try.func28 (by kernel_rfl) rfl #[.agg #[.slice Ao36 t313.length co36, .slice Ao41 t316.length co41], .int .i64 1] rfl (by (try simp only [List.map_toArray, List.map_cons, List.map_nil]); first | done | rfl | (simp only [List.length_drop, List.length_take]; rfl)) ?_; (with_reducible refine (laws_markGloves.calls kj64 (fun k_ => some k_ = (.slice Ao36 t313.length co36 : Value).ownBlock) (.slice Ao36 t313.length co36) t313 (fun k_ => some k_ = (.slice Ao41 t316.length co41 : Value).ownBlock) (.slice Ao41 t316.length co41) t316 1 t333 t334 t335 w _ ?side1 ?side2 ?side3 ?side4 ?side5 A96.1).mono ?_); (case side1 => repeat (first | (with_reducible first | exact HB.1 | apply below_alloc | apply pw_below_drewN | apply below_drew1 | refine below_set ?_ GE290.1 | refine below_set ?_ GE305.1 | refine below_set ?_ GE312.1 | refine below_set ?_ GE320.1) | exact HB.1)); (case side2 => exact Kd.R_tight rfl Q321_0.1); (case side3 => exact fun k_ e_ => (Q321_0.1.1 k_ e_.symm).2.2.2.2); (case side4 => exact Kd.R_tight rfl Q321_1.1); (case side5 => exact fun k_ e_ => (Q321_1.1.1 k_ e_.symm).2.2.2.2); rintro e w180 ⟨rfl, hy0, hy1, hb, hkp⟩; refine ⟨_, rfl, ?_⟩; have n0_ := Aside0.mk (Kd.R_mono (ok' := fun k_ => some k_ ≠ (.slice Ao25 t301.length co25 : Value).ownBlock ∧ some k_ ≠ (.slice Ao29 t330.length co29 : Value).ownBlock ∧ some k_ ≠ (.slice Ao33 t331.length co33 : Value).ownBlock ∧ some k_ ≠ (.slice Ao36 t313.length co36 : Value).ownBlock ∧ some k_ ≠ (.slice Ao41 t316.length co41 : Value).ownBlock) (Kd.R_keptB (Q306_0.1) hkp (fun k_ hk_ hs_ => Or.elim hs_ (fun e_ => (hk_.2.2.2.1) e_) (fun e_ => (hk_.2.2.2.2) e_))) (fun k_ hk_ => ⟨hk_.1.1, hk_.1.2.1, hk_.1.2.2.1, hk_.1.2.2.2.1, hk_.1.2.2.2.2⟩)); have n1_ := Aside0.mk (Kd.R_mono (ok' := fun k_ => some k_ ≠ (.slice Ao22 t298.length co22 : Value).ownBlock ∧ some k_ ≠ (.slice Ao29 t330.length co29 : Value).ownBlock ∧ some k_ ≠ (.slice Ao33 t331.length co33 : Value).ownBlock ∧ some k_ ≠ (.slice Ao36 t313.length co36 : Value).ownBlock ∧ some k_ ≠ (.slice Ao41 t316.length co41 : Value).ownBlock) (Kd.R_keptB (Q306_1.1) hkp (fun k_ hk_ hs_ => Or.elim hs_ (fun e_ => (hk_.2.2.2.1) e_) (fun e_ => (hk_.2.2.2.2) e_))) (fun k_ hk_ => ⟨hk_.1.1, hk_.1.2.1, hk_.1.2.2.1, hk_.1.2.2.2.1, hk_.1.2.2.2.2⟩)); have n2_ := Aside0.mk (Kd.R_mono (ok' := fun k_ => some k_ ≠ (.slice Ao22 t298.length co22 : Value).ownBlock ∧ some k_ ≠ (.slice Ao25 t301.length co25 : Value).ownBlock ∧ some k_ ≠ (.slice Ao33 t331.length co33 : Value).ownBlock ∧ some k_ ≠ (.slice Ao36 t313.length co36 : Value).ownBlock ∧ some k_ ≠ (.slice Ao41 t316.length co41 : Value).ownBlock) (Kd.R_keptB (Q313_0.1) hkp (fun k_ hk_ hs_ => Or.elim hs_ (fun e_ => (hk_.2.2.2.1) e_) (fun e_ => (hk_.2.2.2.2) e_))) (fun k_ hk_ => ⟨hk_.1.1, hk_.1.2.1, hk_.1.2.2.1, hk_.1.2.2.2.1, hk_.1.2.2.2.2⟩)); have n3_ := Aside0.mk (Kd.R_mono (ok' := fun k_ => some k_ ≠ (.slice Ao22 t298.length co22 : Value).ownBlock ∧ some k_ ≠ (.slice Ao25 t301.length co25 : Value).ownBlock ∧ some k_ ≠ (.slice Ao29 t330.length co29 : Value).ownBlock ∧ some k_ ≠ (.slice Ao36 t313.length co36 : Value).ownBlock ∧ some k_ ≠ (.slice Ao41 t316.length co41 : Value).ownBlock) (Kd.R_keptB (Q313_1.1) hkp (fun k_ hk_ hs_ => Or.elim hs_ (fun e_ => (hk_.2.2.2.1) e_) (fun e_ => (hk_.2.2.2.2) e_))) (fun k_ hk_ => ⟨hk_.1.1, hk_.1.2.1, hk_.1.2.2.1, hk_.1.2.2.2.1, hk_.1.2.2.2.2⟩)); have n4_ := Aside0.mk (Kd.R_reok rfl hy0 (fun k_ e_ => Q321_0.1.1 k_ e_)); have n5_ := Aside0.mk (Kd.R_reok rfl hy1 (fun k_ e_ => Q321_1.1.1 k_ e_)); have n6_ := Aside0.mk (blk_kept (by (with_reducible repeat (first | refine blk_drewN ?_ _ | refine blk_drew ?_ | refine blk_alloc ?_ _)); exact BK290.1) hkp (fun hs_ => Or.elim hs_ (fun e_ => (fun e_ => (Kd.R_ne Q321_0.1 BK290.1 (by decide)) e_) e_) (fun e_ => (fun e_ => (Kd.R_ne Q321_1.1 BK290.1 (by decide)) e_) e_))); have n7_ := Aside0.mk (blk_kept (by (with_reducible repeat (first | refine blk_drewN ?_ _ | refine blk_drew ?_ | refine blk_alloc ?_ _)); exact BK305.1) hkp (fun hs_ => Or.elim hs_ (fun e_ => (fun e_ => (Kd.R_ne Q321_0.1 BK305.1 (by decide)) e_) e_) (fun e_ => (fun e_ => (Kd.R_ne Q321_1.1 BK305.1 (by decide)) e_) e_))); have n8_ := Aside0.mk (blk_kept (by (with_reducible repeat (first | refine blk_drewN ?_ _ | refine blk_drew ?_ | refine blk_alloc ?_ _)); exact BK312.1) hkp (fun hs_ => Or.elim hs_ (fun e_ => (fun e_ => (Kd.R_ne Q321_0.1 BK312.1 (by decide)) e_) e_) (fun e_ => (fun e_ => (Kd.R_ne Q321_1.1 BK312.1 (by decide)) e_) e_))); have n9_ := Aside0.mk (blk_kept (by (with_reducible repeat (first | refine blk_drewN ?_ _ | refine blk_drew ?_ | refine blk_alloc ?_ _)); exact BK320.1) hkp (fun hs_ => Or.elim hs_ (fun e_ => (fun e_ => (Kd.R_ne Q321_0.1 BK320.1 (by decide)) e_) e_) (fun e_ => (fun e_ => (Kd.R_ne Q321_1.1 BK320.1 (by decide)) e_) e_))); have n10_ := Aside0.mk (hb); clear Q306_0; clear Q306_1; clear Q313_0; clear Q313_1; clear Q321_0; clear Q321_1; clear BK290; clear BK305; clear BK312; clear BK320; clear HB; have Q306_0 := n0_; have Q306_1 := n1_; have Q313_0 := n2_; have Q313_1 := n3_; have Q321_0 := n4_; have Q321_1 := n5_; have BK290 := n6_; have BK305 := n7_; have BK312 := n8_; have BK320 := n9_; have HB := n10_; clear n0_ n1_ n2_ n3_ n4_ n5_ n6_ n7_ n8_ n9_ n10_; (try clear hb); (try clear hkp); (try clear hy0); (try clear hy1); have hcz181_0 : w180.cell? ⟨gb320, 0, none⟩ = some (.slice Ao36 t313.length co36) := (blk_cell BK320.1 0).trans rfl; have hcz181_1 : w180.cell? ⟨gb320, 1, none⟩ = some (.slice Ao41 t316.length co41) := (blk_cell BK320.1 1).trans rfl; have hfz181_0 := blk_frozen BK320.1 0; have hfz181_1 := blk_frozen BK320.1 1) | ((with_reducible refine gate_callee (f := 29) rfl ?_); refine goesL_ (some 71) rfl rfl Try.func29 (by kernel_rfl) rfl #[.agg #[.slice Ao36 t334.length co36, .slice Ao41 t335.length co41], .int .i64 1] rfl (by (try simp only [List.map_toArray, List.map_cons, List.map_nil]); first | done | (rw [show t334.length = t313.length from (Kd.R_reads' Q321_0.1).1.symm, show t335.length = t316.length from (Kd.R_reads' Q321_1.1).1.symm] <;> rfl) | rfl | (simp only [List.length_drop, List.length_take]; rfl)) ?_; (with_reducible refine (laws_heldGloves.calls kj64 _ _ t334 _ _ t335 1 t336 _ ?side1 ?side2 ?side3 ?side4 A97.1).mono ?_); (case side1 => repeat (first | exact (Kd.R_reads' Q321_0.1).2.2 | (with_reducible refine Kd.C_alloc ?_ _) | (with_reducible refine Kd.C_drewN ?_ _) | (with_reducible refine Kd.C_drew ?_))); (case side2 => rw [show t334.length = t313.length from (Kd.R_reads' Q321_0.1).1.symm]; exact (Kd.R_reads' Q321_0.1).2.1); (case side3 => repeat (first | exact (Kd.R_reads' Q321_1.1).2.2 | (with_reducible refine Kd.C_alloc ?_ _) | (with_reducible refine Kd.C_drewN ?_ _) | (with_reducible refine Kd.C_drew ?_))); (case side4 => rw [show t335.length = t316.length from (Kd.R_reads' Q321_1.1).1.symm]; exact (Kd.R_reads' Q321_1.1).2.1); rintro e w182 ⟨rfl, hb⟩; refine ⟨_, rfl, ?_⟩; have n0_ := Aside0.mk (Kd.R_below (by (with_reducible repeat (first | apply Kd.R_alloc | apply Kd.R_drewN | apply Kd.R_drew)); exact Q306_0.1) hb); have n1_ := Aside0.mk (Kd.R_below (by (with_reducible repeat (first | apply Kd.R_alloc | apply Kd.R_drewN | apply Kd.R_drew)); exact Q306_1.1) hb); have n2_ := Aside0.mk (Kd.R_below (by (with_reducible repeat (first | apply Kd.R_alloc | apply Kd.R_drewN | apply Kd.R_drew)); exact Q313_0.1) hb); have n3_ := Aside0.mk (Kd.R_below (by (with_reducible repeat (first | apply Kd.R_alloc | apply Kd.R_drewN | apply Kd.R_drew)); exact Q313_1.1) hb); have n4_ := Aside0.mk (Kd.R_below (by (with_reducible repeat (first | apply Kd.R_alloc | apply Kd.R_drewN | apply Kd.R_drew)); exact Q321_0.1) hb); have n5_ := Aside0.mk (Kd.R_below (by (with_reducible repeat (first | apply Kd.R_alloc | apply Kd.R_drewN | apply Kd.R_drew)); exact Q321_1.1) hb); have n6_ := Aside0.mk (blk_below (g := gb290) (o := .cells #[.slice A0_0 l0_0.length c0_0, .slice A0_1 l0_1.length c0_1] 24 (0, 0)) (by (with_reducible repeat (first | refine blk_drewN ?_ _ | refine blk_drew ?_ | refine blk_alloc ?_ _)); exact BK290.1) hb); have n7_ := Aside0.mk (blk_below (g := gb305) (o := .cells #[.slice Ao22 t298.length co22, .slice Ao25 t301.length co25] 28 (0, 0)) (by (with_reducible repeat (first | refine blk_drewN ?_ _ | refine blk_drew ?_ | refine blk_alloc ?_ _)); exact BK305.1) hb); have n8_ := Aside0.mk (blk_below (g := gb312) (o := .cells #[.slice Ao29 t330.length co29, .slice Ao33 t331.length co33] 28 (0, 0)) (by (with_reducible repeat (first | refine blk_drewN ?_ _ | refine blk_drew ?_ | refine blk_alloc ?_ _)); exact BK312.1) hb); have n9_ := Aside0.mk (blk_below (g := gb320) (o := .cells #[.slice Ao36 t313.length co36, .slice Ao41 t316.length co41] 28 (0, 0)) (by (with_reducible repeat (first | refine blk_drewN ?_ _ | refine blk_drew ?_ | refine blk_alloc ?_ _)); exact BK320.1) hb); have n10_ := Aside0.mk (below_step (by repeat (first | (with_reducible first | exact HB.1 | apply below_alloc | apply pw_below_drewN | apply below_drew1 | refine below_set ?_ GE290.1 | refine below_set ?_ GE305.1 | refine below_set ?_ GE312.1 | refine below_set ?_ GE320.1) | exact HB.1)) hb); clear Q306_0; clear Q306_1; clear Q313_0; clear Q313_1; clear Q321_0; clear Q321_1; clear BK290; clear BK305; clear BK312; clear BK320; clear HB; have Q306_0 := n0_; have Q306_1 := n1_; have Q313_0 := n2_; have Q313_1 := n3_; have Q321_0 := n4_; have Q321_1 := n5_; have BK290 := n6_; have BK305 := n7_; have BK312 := n8_; have BK320 := n9_; have HB := n10_; clear n0_ n1_ n2_ n3_ n4_ n5_ n6_ n7_ n8_ n9_ n10_; (try clear hb); (try clear hb2); (try clear hk); (try clear hi)))
           go_ret
           exact ⟨by first | rfl | (simp [errW_none, errW_some] <;> rfl) | (simp [Go.IntWalk.i64_left]; done) | (simp [*, errW_none, errW_some] <;> rfl), by repeat (first | (with_reducible first | exact HB.1 | apply below_alloc | apply pw_below_drewN | apply below_drew1 | refine below_set ?_ GE290.1 | refine below_set ?_ GE305.1 | refine below_set ?_ GE312.1 | refine below_set ?_ GE320.1) | exact HB.1)⟩
     ·replace c63 := Bool.eq_false_iff.mpr c63
      subst c63
      have H1 : (some false) = some r := by rw [if_neg (show ¬ (false = true) by decide)] at H; exact H
      clear H
      have H := H1
      clear H1
      obtain rfl := Option.some.inj H
      try go_wp2
      have n0_ := Aside0.mk (Kd.R_drew Q306_0.1)
      have n1_ := Aside0.mk (Kd.R_drew Q306_1.1)
      have n2_ := Aside0.mk (Kd.R_drew Q313_0.1)
      have n3_ := Aside0.mk (Kd.R_drew Q313_1.1)
      have n4_ := Aside0.mk (Kd.R_drew Q321_0.1)
      have n5_ := Aside0.mk (Kd.R_drew Q321_1.1)
      have n6_ := Aside0.mk (blk_drew BK290.1)
      have n7_ := Aside0.mk (blk_drew BK305.1)
      have n8_ := Aside0.mk (blk_drew BK312.1)
      have n9_ := Aside0.mk (blk_drew BK320.1)
      have n10_ := Aside0.mk (below_drew1 HB.1)
      clear Q306_0
      clear Q306_1
      clear Q313_0
      clear Q313_1
      clear Q321_0
      clear Q321_1
      clear BK290
      clear BK305
      clear BK312
      clear BK320
      clear HB
      have Q306_0 := n0_
      have Q306_1 := n1_
      have Q313_0 := n2_
      have Q313_1 := n3_
      have Q321_0 := n4_
      have Q321_1 := n5_
      have BK290 := n6_
      have BK305 := n7_
      have BK312 := n8_
      have BK320 := n9_
      have HB := n10_
      clear n0_ n1_ n2_ n3_ n4_ n5_ n6_ n7_ n8_ n9_ n10_
      refine start_ (n := 5) (S := fun w' => w'.cell? ⟨gb312, 0, none⟩ = some (.slice Ao29 t306.length co29) ∧ w'.cell? ⟨gb312, 1, none⟩ = some (.slice Ao33 t309.length co33) ∧ w'.cell? ⟨gb290, 0, none⟩ = some (.slice A0_0 l0_0.length c0_0) ∧ w'.cell? ⟨gb290, 1, none⟩ = some (.slice A0_1 l0_1.length c0_1)) (ds := []) #[false, false, false, false, false] (by kernel_rfl) rfl rfl ⟨(blk_cell BK312.1 0).trans rfl, (blk_cell BK312.1 1).trans rfl, (blk_cell BK290.1 0).trans rfl, (blk_cell BK290.1 1).trans rfl⟩ (fun hHeld => ?_)
      generalize wc.drew = w183 at Q306_0 Q306_1 Q313_0 Q313_1 Q321_0 Q321_1 BK290 BK305 BK312 BK320 HB hHeld ⊢
      refine take_ (i := 0) (N := some 45) (v := ?_) (a' := ?_) #[true, false, false, false, false] rfl rfl (by kernel_rfl) (fun _ _ _ h => h) (Or.inl ⟨by rfl, ?_⟩) hHeld ?_ ?_
      rotate_left
      ·rintro w' ⟨s0, s1, s2, s3⟩
       go_simp
       with_reducible rfl
      rotate_left
      ·simp only [Act.put, List.setIfInBounds_toArray, List.set_cons_zero, List.set_cons_succ, i64_w, i32_w]
       rfl
      refine take_ (i := 1) (N := some 46) (v := ?_) (a' := ?_) #[true, true, false, false, false] rfl rfl (by kernel_rfl) (fun _ _ _ h => h) (Or.inl ⟨by rfl, ?_⟩) hHeld ?_ ?_
      rotate_left
      ·rintro w' ⟨s0, s1, s2, s3⟩
       go_simp
       with_reducible rfl
      rotate_left
      ·simp only [Act.put, List.setIfInBounds_toArray, List.set_cons_zero, List.set_cons_succ, i64_w, i32_w]
       rfl
      refine one_ (i := 2) (N := some 47) #[true, true, true, false, false] rfl rfl (by kernel_rfl) (by decide) (fun K hK => ?_)
      refine goes_ Try.func17 (by kernel_rfl) rfl #[.agg #[.slice A0_0 l0_0.length c0_0, .slice A0_1 l0_1.length c0_1]] (by rfl) rfl rfl (by (try simp only [List.map_toArray, List.map_cons, List.map_nil]); first | done | rfl | (simp only [List.length_drop, List.length_take]; rfl)) ?_
      with_reducible refine (laws_toGloves.calls kj11 _ _ l0_0 _ _ l0_1 t322 t325 _ ?side1 ?side2 ?side3 ?side4 A61.1).mono ?_
      (case side1 => repeat (first | exact (Kd.C_below HR0_0.1 HB.1) | (with_reducible refine Kd.C_alloc ?_ _) | (with_reducible refine Kd.C_drewN ?_ _) | (with_reducible refine Kd.C_drew ?_)))
      (case side2 => exact HC0_0.1)
      (case side3 => repeat (first | exact (Kd.C_below HR0_1.1 HB.1) | (with_reducible refine Kd.C_alloc ?_ _) | (with_reducible refine Kd.C_drewN ?_ _) | (with_reducible refine Kd.C_drew ?_)))
      (case side4 => exact HC0_1.1)
      rintro e w184 ⟨v323, v326, rfl, ho0, ho1, hb⟩
      refine ⟨_, rfl, ?_⟩
      have n0_ := Aside0.mk (Kd.R_mono (Kd.R_told (Kd.R_told (Kd.R_old (by (with_reducible repeat (first | apply Kd.R_alloc | apply Kd.R_drewN | apply Kd.R_drew)); exact Q306_0.1) hb) (Kd.R_base ho0)) (Kd.R_base ho1)) (fun _ h_ => h_.1))
      have n1_ := Aside0.mk (Kd.R_mono (Kd.R_told (Kd.R_told (Kd.R_old (by (with_reducible repeat (first | apply Kd.R_alloc | apply Kd.R_drewN | apply Kd.R_drew)); exact Q306_1.1) hb) (Kd.R_base ho0)) (Kd.R_base ho1)) (fun _ h_ => h_.1))
      have n2_ := Aside0.mk (Kd.R_mono (Kd.R_told (Kd.R_told (Kd.R_old (by (with_reducible repeat (first | apply Kd.R_alloc | apply Kd.R_drewN | apply Kd.R_drew)); exact Q313_0.1) hb) (Kd.R_base ho0)) (Kd.R_base ho1)) (fun _ h_ => h_.1))
      have n3_ := Aside0.mk (Kd.R_mono (Kd.R_told (Kd.R_told (Kd.R_old (by (with_reducible repeat (first | apply Kd.R_alloc | apply Kd.R_drewN | apply Kd.R_drew)); exact Q313_1.1) hb) (Kd.R_base ho0)) (Kd.R_base ho1)) (fun _ h_ => h_.1))
      have n4_ := Aside0.mk (Kd.R_mono (Kd.R_told (Kd.R_told (Kd.R_old (by (with_reducible repeat (first | apply Kd.R_alloc | apply Kd.R_drewN | apply Kd.R_drew)); exact Q321_0.1) hb) (Kd.R_base ho0)) (Kd.R_base ho1)) (fun _ h_ => h_.1))
      have n5_ := Aside0.mk (Kd.R_mono (Kd.R_told (Kd.R_told (Kd.R_old (by (with_reducible repeat (first | apply Kd.R_alloc | apply Kd.R_drewN | apply Kd.R_drew)); exact Q321_1.1) hb) (Kd.R_base ho0)) (Kd.R_base ho1)) (fun _ h_ => h_.1))
      have n6_ := Aside0.mk (Kd.R_lower (Kd.R_new' (Kd.R_new' (Kd.R_new' (Kd.R_new' (Kd.R_new' (Kd.R_new' ho0 (Kd.R_lt (by (with_reducible repeat (first | apply Kd.R_alloc | apply Kd.R_drewN | apply Kd.R_drew)); exact Q306_0.1))) (Kd.R_lt (by (with_reducible repeat (first | apply Kd.R_alloc | apply Kd.R_drewN | apply Kd.R_drew)); exact Q306_1.1))) (Kd.R_lt (by (with_reducible repeat (first | apply Kd.R_alloc | apply Kd.R_drewN | apply Kd.R_drew)); exact Q313_0.1))) (Kd.R_lt (by (with_reducible repeat (first | apply Kd.R_alloc | apply Kd.R_drewN | apply Kd.R_drew)); exact Q313_1.1))) (Kd.R_lt (by (with_reducible repeat (first | apply Kd.R_alloc | apply Kd.R_drewN | apply Kd.R_drew)); exact Q321_0.1))) (Kd.R_lt (by (with_reducible repeat (first | apply Kd.R_alloc | apply Kd.R_drewN | apply Kd.R_drew)); exact Q321_1.1))) (below_size (by repeat (first | (with_reducible first | exact HB.1 | apply below_alloc | apply pw_below_drewN | apply below_drew1 | refine below_set ?_ GE290.1 | refine below_set ?_ GE305.1 | refine below_set ?_ GE312.1 | refine below_set ?_ GE320.1) | exact HB.1))))
      have n7_ := Aside0.mk (Kd.R_lower (Kd.R_new' (Kd.R_new' (Kd.R_new' (Kd.R_new' (Kd.R_new' (Kd.R_new' ho1 (Kd.R_lt (by (with_reducible repeat (first | apply Kd.R_alloc | apply Kd.R_drewN | apply Kd.R_drew)); exact Q306_0.1))) (Kd.R_lt (by (with_reducible repeat (first | apply Kd.R_alloc | apply Kd.R_drewN | apply Kd.R_drew)); exact Q306_1.1))) (Kd.R_lt (by (with_reducible repeat (first | apply Kd.R_alloc | apply Kd.R_drewN | apply Kd.R_drew)); exact Q313_0.1))) (Kd.R_lt (by (with_reducible repeat (first | apply Kd.R_alloc | apply Kd.R_drewN | apply Kd.R_drew)); exact Q313_1.1))) (Kd.R_lt (by (with_reducible repeat (first | apply Kd.R_alloc | apply Kd.R_drewN | apply Kd.R_drew)); exact Q321_0.1))) (Kd.R_lt (by (with_reducible repeat (first | apply Kd.R_alloc | apply Kd.R_drewN | apply Kd.R_drew)); exact Q321_1.1))) (below_size (by repeat (first | (with_reducible first | exact HB.1 | apply below_alloc | apply pw_below_drewN | apply below_drew1 | refine below_set ?_ GE290.1 | refine below_set ?_ GE305.1 | refine below_set ?_ GE312.1 | refine below_set ?_ GE320.1) | exact HB.1))))
      have n8_ := Aside0.mk (blk_below (g := gb290) (o := .cells #[.slice A0_0 l0_0.length c0_0, .slice A0_1 l0_1.length c0_1] 24 (0, 0)) (by (with_reducible repeat (first | refine blk_drewN ?_ _ | refine blk_drew ?_ | refine blk_alloc ?_ _)); exact BK290.1) hb)
      have n9_ := Aside0.mk (blk_below (g := gb305) (o := .cells #[.slice Ao22 t298.length co22, .slice Ao25 t301.length co25] 28 (0, 0)) (by (with_reducible repeat (first | refine blk_drewN ?_ _ | refine blk_drew ?_ | refine blk_alloc ?_ _)); exact BK305.1) hb)
      have n10_ := Aside0.mk (blk_below (g := gb312) (o := .cells #[.slice Ao29 t306.length co29, .slice Ao33 t309.length co33] 28 (0, 0)) (by (with_reducible repeat (first | refine blk_drewN ?_ _ | refine blk_drew ?_ | refine blk_alloc ?_ _)); exact BK312.1) hb)
      have n11_ := Aside0.mk (blk_below (g := gb320) (o := .cells #[.slice Ao36 t313.length co36, .slice Ao41 t316.length co41] 28 (0, 0)) (by (with_reducible repeat (first | refine blk_drewN ?_ _ | refine blk_drew ?_ | refine blk_alloc ?_ _)); exact BK320.1) hb)
      have n12_ := Aside0.mk (below_step (by repeat (first | (with_reducible first | exact HB.1 | apply below_alloc | apply pw_below_drewN | apply below_drew1 | refine below_set ?_ GE290.1 | refine below_set ?_ GE305.1 | refine below_set ?_ GE312.1 | refine below_set ?_ GE320.1) | exact HB.1)) hb)
      clear Q306_0
      clear Q306_1
      clear Q313_0
      clear Q313_1
      clear Q321_0
      clear Q321_1
      clear BK290
      clear BK305
      clear BK312
      clear BK320
      clear HB
      have Q306_0 := n0_
      have Q306_1 := n1_
      have Q313_0 := n2_
      have Q313_1 := n3_
      have Q321_0 := n4_
      have Q321_1 := n5_
      have HO324 := n6_
      have HO327 := n7_
      have BK290 := n8_
      have BK305 := n9_
      have BK312 := n10_
      have BK320 := n11_
      have HB := n12_
      clear n0_ n1_ n2_ n3_ n4_ n5_ n6_ n7_ n8_ n9_ n10_ n11_ n12_
      (try clear hb)
      (try clear hb2)
      (try clear hk)
      (try clear hi)
      (try clear ho0)
      (try clear ho1)
      obtain ⟨Ao185, co185, eo185⟩ := Kd.R_slice HO324.1
      (first | subst eo185 | (injection eo185 with f1_ f2_ f3_; have f4_ := f1_.symm; have f5_ := f3_.symm; clear f1_ f2_ f3_; subst f4_; subst f5_))
      obtain ⟨Ao186, co186, eo186⟩ := Kd.R_slice HO327.1
      (first | subst eo186 | (injection eo186 with f1_ f2_ f3_; have f4_ := f1_.symm; have f5_ := f3_.symm; clear f1_ f2_ f3_; subst f4_; subst f5_))
      refine hK.out _ _ ⟨(blk_cell BK312.1 0).trans rfl, (blk_cell BK312.1 1).trans rfl, (blk_cell BK290.1 0).trans rfl, (blk_cell BK290.1 1).trans rfl⟩ (fun hHeld => ?_)
      clear hK K
      refine norm_ (a' := ?_) ?_ ?_
      rotate_left
      ·show Act.put _ (some 47) _ = _
       simp only [Act.put, List.setIfInBounds_toArray, List.set_cons_zero, List.set_cons_succ, i64_w, i32_w]
       rfl
      refine one_ (i := 3) (N := some 48) #[true, true, true, true, false] rfl rfl (by kernel_rfl) (by decide) (fun K hK => ?_)
      refine goes_ Try.func19 (by kernel_rfl) rfl #[.agg #[.slice Ao29 t306.length co29, .slice Ao33 t309.length co33], .agg #[.slice Ao185 t322.length co185, .slice Ao186 t325.length co186]] (by rfl) rfl rfl (by (try simp only [List.map_toArray, List.map_cons, List.map_nil]); first | done | rfl | (simp only [List.length_drop, List.length_take]; rfl)) ?_
      with_reducible refine (laws_eqGloves.calls kj11 _ _ t306 _ _ t309 _ _ t322 _ _ t325 false _ ?side1 ?side2 ?side3 ?side4 ?side5 ?side6 ?side7 ?side8 A62.1).mono ?_
      (case side1 => repeat (first | exact (Kd.R_reads' Q313_0.1).2.2 | (with_reducible refine Kd.C_alloc ?_ _) | (with_reducible refine Kd.C_drewN ?_ _) | (with_reducible refine Kd.C_drew ?_)))
      (case side2 => exact (Kd.R_reads' Q313_0.1).2.1)
      (case side3 => repeat (first | exact (Kd.R_reads' Q313_1.1).2.2 | (with_reducible refine Kd.C_alloc ?_ _) | (with_reducible refine Kd.C_drewN ?_ _) | (with_reducible refine Kd.C_drew ?_)))
      (case side4 => exact (Kd.R_reads' Q313_1.1).2.1)
      (case side5 => repeat (first | exact (Kd.R_reads' HO324.1).2.2 | (with_reducible refine Kd.C_alloc ?_ _) | (with_reducible refine Kd.C_drewN ?_ _) | (with_reducible refine Kd.C_drew ?_)))
      (case side6 => exact (Kd.R_reads' HO324.1).2.1)
      (case side7 => repeat (first | exact (Kd.R_reads' HO327.1).2.2 | (with_reducible refine Kd.C_alloc ?_ _) | (with_reducible refine Kd.C_drewN ?_ _) | (with_reducible refine Kd.C_drew ?_)))
      (case side8 => exact (Kd.R_reads' HO327.1).2.1)
      rintro e w187 ⟨rfl, hb⟩
      refine ⟨_, rfl, ?_⟩
      have n0_ := Aside0.mk (Kd.R_below (by (with_reducible repeat (first | apply Kd.R_alloc | apply Kd.R_drewN | apply Kd.R_drew)); exact Q306_0.1) hb)
      have n1_ := Aside0.mk (Kd.R_below (by (with_reducible repeat (first | apply Kd.R_alloc | apply Kd.R_drewN | apply Kd.R_drew)); exact Q306_1.1) hb)
      have n2_ := Aside0.mk (Kd.R_below (by (with_reducible repeat (first | apply Kd.R_alloc | apply Kd.R_drewN | apply Kd.R_drew)); exact Q313_0.1) hb)
      have n3_ := Aside0.mk (Kd.R_below (by (with_reducible repeat (first | apply Kd.R_alloc | apply Kd.R_drewN | apply Kd.R_drew)); exact Q313_1.1) hb)
      have n4_ := Aside0.mk (Kd.R_below (by (with_reducible repeat (first | apply Kd.R_alloc | apply Kd.R_drewN | apply Kd.R_drew)); exact Q321_0.1) hb)
      have n5_ := Aside0.mk (Kd.R_below (by (with_reducible repeat (first | apply Kd.R_alloc | apply Kd.R_drewN | apply Kd.R_drew)); exact Q321_1.1) hb)
      have n6_ := Aside0.mk (Kd.R_below (by (with_reducible repeat (first | apply Kd.R_alloc | apply Kd.R_drewN | apply Kd.R_drew)); exact HO324.1) hb)
      have n7_ := Aside0.mk (Kd.R_below (by (with_reducible repeat (first | apply Kd.R_alloc | apply Kd.R_drewN | apply Kd.R_drew)); exact HO327.1) hb)
      have n8_ := Aside0.mk (blk_below (g := gb290) (o := .cells #[.slice A0_0 l0_0.length c0_0, .slice A0_1 l0_1.length c0_1] 24 (0, 0)) (by (with_reducible repeat (first | refine blk_drewN ?_ _ | refine blk_drew ?_ | refine blk_alloc ?_ _)); exact BK290.1) hb)
      have n9_ := Aside0.mk (blk_below (g := gb305) (o := .cells #[.slice Ao22 t298.length co22, .slice Ao25 t301.length co25] 28 (0, 0)) (by (with_reducible repeat (first | refine blk_drewN ?_ _ | refine blk_drew ?_ | refine blk_alloc ?_ _)); exact BK305.1) hb)
      have n10_ := Aside0.mk (blk_below (g := gb312) (o := .cells #[.slice Ao29 t306.length co29, .slice Ao33 t309.length co33] 28 (0, 0)) (by (with_reducible repeat (first | refine blk_drewN ?_ _ | refine blk_drew ?_ | refine blk_alloc ?_ _)); exact BK312.1) hb)
      have n11_ := Aside0.mk (blk_below (g := gb320) (o := .cells #[.slice Ao36 t313.length co36, .slice Ao41 t316.length co41] 28 (0, 0)) (by (with_reducible repeat (first | refine blk_drewN ?_ _ | refine blk_drew ?_ | refine blk_alloc ?_ _)); exact BK320.1) hb)
      have n12_ := Aside0.mk (below_step (by repeat (first | (with_reducible first | exact HB.1 | apply below_alloc | apply pw_below_drewN | apply below_drew1 | refine below_set ?_ GE290.1 | refine below_set ?_ GE305.1 | refine below_set ?_ GE312.1 | refine below_set ?_ GE320.1) | exact HB.1)) hb)
      clear Q306_0
      clear Q306_1
      clear Q313_0
      clear Q313_1
      clear Q321_0
      clear Q321_1
      clear HO324
      clear HO327
      clear BK290
      clear BK305
      clear BK312
      clear BK320
      clear HB
      have Q306_0 := n0_
      have Q306_1 := n1_
      have Q313_0 := n2_
      have Q313_1 := n3_
      have Q321_0 := n4_
      have Q321_1 := n5_
      have HO324 := n6_
      have HO327 := n7_
      have BK290 := n8_
      have BK305 := n9_
      have BK312 := n10_
      have BK320 := n11_
      have HB := n12_
      clear n0_ n1_ n2_ n3_ n4_ n5_ n6_ n7_ n8_ n9_ n10_ n11_ n12_
      (try clear hb)
      (try clear hb2)
      (try clear hk)
      (try clear hi)
      refine hK.out _ _ ⟨(blk_cell BK312.1 0).trans rfl, (blk_cell BK312.1 1).trans rfl, (blk_cell BK290.1 0).trans rfl, (blk_cell BK290.1 1).trans rfl⟩ (fun hHeld => ?_)
      clear hK K
      refine norm_ (a' := ?_) ?_ ?_
      rotate_left
      ·show Act.put _ (some 48) _ = _
       simp only [Act.put, List.setIfInBounds_toArray, List.set_cons_zero, List.set_cons_succ, i64_w, i32_w]
       rfl
      refine pure_ (i := 4) (N := some 49) (v := ?_) (a' := ?_) #[true, true, true, true, true] rfl rfl (by kernel_rfl) (fun _ _ _ h => h) (Or.inl ⟨by rfl, ?_⟩) ?_ ?_
      rotate_left
      ·intro w'
       go_simp
       with_reducible rfl
      rotate_left
      ·simp only [Act.put, List.setIfInBounds_toArray, List.set_cons_zero, List.set_cons_succ, i64_w, i32_w]
       rfl
      refine done_ (by kernel_rfl) ?_
      try go_wp2
      go_ret
      exact ⟨by first | rfl | (simp [errW_none, errW_some] <;> rfl) | (simp [Go.IntWalk.i64_left]; done) | (simp [*, errW_none, errW_some] <;> rfl), by repeat (first | (with_reducible first | exact HB.1 | apply below_alloc | apply pw_below_drewN | apply below_drew1 | refine below_set ?_ GE290.1 | refine below_set ?_ GE305.1 | refine below_set ?_ GE312.1 | refine below_set ?_ GE320.1) | exact HB.1)⟩

/-- THE ONE PURE STATEMENT of laws_FnExactWorstGloves. -/
def laws_FnExactWorstGloves.Pure : Prop := ∀ (l0_0 : List Int) (l0_1 : List Int) (a1 : Int), l0_0.length ≤ maxLen → l0_0.length * 8 ≤ 140737488351232 → (∀ x ∈ l0_0, (Lit.int .i64 x).wf = true) → l0_1.length ≤ maxLen → l0_1.length * 8 ≤ 140737488351232 → (∀ x ∈ l0_1, (Lit.int .i64 x).wf = true) → (Lit.int .i64 a1).wf = true → ∃ k, laws_FnExactWorstGloves.f k l0_0 l0_1 a1 = some true
theorem laws_FnExactWorstGloves.walk (P : laws_FnExactWorstGloves.Pure) (a0_0 : Option Addr) (len0_0 cap0_0 : Nat) (z0_0 : List Int) (a0_1 : Option Addr) (len0_1 cap0_1 : Nat) (z0_1 : List Int) (a1 : Int) (w : World) (w0_0 : (a0_0 = none ∧ len0_0 = 0 ∧ cap0_0 = 0 ∧ z0_0 = []) ∨ ∃ x, a0_0 = some x ∧ len0_0 ≤ cap0_0 ∧ cap0_0 ≤ maxLen ∧ z0_0.length = cap0_0 ∧ (∀ i, i < z0_0.length → w.cell? (x.add i) = some (.int .i64 (z0_0.getD i 0))) ∧ ∀ n ∈ z0_0, (Lit.int .i64 n).wf = true) (y0_0 : len0_0 * 8 ≤ 140737488351232) (w0_1 : (a0_1 = none ∧ len0_1 = 0 ∧ cap0_1 = 0 ∧ z0_1 = []) ∨ ∃ x, a0_1 = some x ∧ len0_1 ≤ cap0_1 ∧ cap0_1 ≤ maxLen ∧ z0_1.length = cap0_1 ∧ (∀ i, i < z0_1.length → w.cell? (x.add i) = some (.int .i64 (z0_1.getD i 0))) ∧ ∀ n ∈ z0_1, (Lit.int .i64 n).wf = true) (y0_1 : len0_1 * 8 ≤ 140737488351232) (w1 : (Lit.int .i64 a1).wf = true) :
  Calls Try.prog 14 #[.agg #[.slice a0_0 len0_0 cap0_0, .slice a0_1 len0_1 cap0_1], .int .i64 a1] w fun e w' => e = .returned (.bool true) ∧ Below w.heap.size w w' := by
 obtain ⟨l0_0, rfl, hr0_0, hm0_0, hw0_0, hc0_0⟩ := ReadsInt.ofRowC w0_0
 obtain ⟨l0_1, rfl, hr0_1, hm0_1, hw0_1, hc0_1⟩ := ReadsInt.ofRowC w0_1
 obtain ⟨k, h⟩ := P l0_0 l0_1 a1 hm0_0 y0_0 hw0_0 hm0_1 y0_1 hw0_1 w1
 refine (laws_FnExactWorstGloves.calls k _ _ l0_0 _ _ l0_1 a1 true w (Kd.C_of_reads (d := (0 : Int)) (h1 := fun _ => rfl) hr0_0) hc0_0 (Kd.C_of_reads (d := (0 : Int)) (h1 := fun _ => rfl) hr0_1) hc0_1 h).mono ?_
 rintro e w' ⟨rfl, hd⟩
 exact ⟨rfl, hd⟩

end Go.Proofs.Ytcnfhfjhpicpkaa.P
