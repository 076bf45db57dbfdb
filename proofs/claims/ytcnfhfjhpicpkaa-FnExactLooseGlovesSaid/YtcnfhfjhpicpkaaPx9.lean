-- written for this claim by the session's own program (wip/xprint)
import Derived.Test.YtcnfhfjhpicpkaaPx0
import Derived.Test.YtcnfhfjhpicpkaaPx1
import Derived.Test.YtcnfhfjhpicpkaaPx2
import Derived.Test.YtcnfhfjhpicpkaaPx8
namespace Go.Proofs.Ytcnfhfjhpicpkaa.P
open Go.RowKit Go.Proofs.YtcnfhfjhpicpkaaW.PrintWords Go.Proofs.YtcnfhfjhpicpkaaW.PrintLast Go.Proofs.YtcnfhfjhpicpkaaW.PrintMore
attribute [local go_sem] max2_int min2_int max_two min_two max_three min_three max_four min_four   -- for this text's walks alone
set_option linter.unusedVariables false
set_option linter.unusedSimpArgs false

/-! ### laws_FnExactLooseGloves: function 12 -/
mutual
def laws_FnExactLooseGloves.j0 : Nat → Bool → Bool → Bool → List Int → List Int → List Int → List Int → List Int → List Int → List Int → List Int → Option (Bool)
 | 0, _, _, _, _, _, _, _, _, _, _, _ => none
 | k + 1, x5, x8, x40, x428000, x428001, x443000, x443001, x450000, x450001, x458000, x458001 => if x40 = true then (some false) else ((laws_toGloves.f k x428000 x428001).bind fun bt459 => ((laws_eqGloves.f k x450000 x450001 bt459.1 bt459.2).bind fun t465 => (if t465 = true then ((laws_markGloves.f k x450000 x450001 1).bind fun bt466 => (if bt466.1 < 0 then (laws_FnExactLooseGloves.j1 k x5 true x428000 x428001 x443000 x443001 x458000 x458001) else ((laws_eqGloves.f k x458000 x458001 x443000 x443001).bind fun t469 => (if t469 = true then (laws_FnExactLooseGloves.j1 k x5 (x8 != x5) x428000 x428001 x443000 x443001 x458000 x458001) else (laws_FnExactLooseGloves.j1 k x5 true x428000 x428001 x443000 x443001 x458000 x458001))))) else (some false))))
def laws_FnExactLooseGloves.j1 : Nat → Bool → Bool → List Int → List Int → List Int → List Int → List Int → List Int → Option (Bool)
 | 0, _, _, _, _, _, _, _, _ => none
 | k + 1, x5, x61, x428000, x428001, x443000, x443001, x458000, x458001 => if x61 = true then (some false) else ((laws_markGloves.f k x458000 x458001 1).bind fun bt470 => ((laws_heldGloves.f k bt470.2.1 bt470.2.2 1).bind fun t473 => (if t473 < 0 then (some false) else (if t473 = bt470.1 then ((laws_toGloves.f k x428000 x428001).bind fun bt474 => ((impl_LooseGloves.f k bt474.1 bt474.2).bind fun bt480 => ((laws_eqGloves.f k bt480.1 bt480.2.1 x443000 x443001).bind fun t488 => (if t488 = true then (laws_FnExactLooseGloves.j2 k bt470.1 (bt480.2.2 != x5) bt470.2.1 bt470.2.2) else (laws_FnExactLooseGloves.j2 k bt470.1 true bt470.2.1 bt470.2.2))))) else (some false)))))
def laws_FnExactLooseGloves.j2 : Nat → Int → Bool → List Int → List Int → Option (Bool)
 | 0, _, _, _, _ => none
 | k + 1, x10, x87, x458000, x458001 => if x87 = true then (some false) else ((laws_heldGloves.f k x458000 x458001 1).bind fun t489 => (if t489 < 0 then (some false) else (if t489 = x10 then (some true) else (some false))))
end
def laws_FnExactLooseGloves.f (k : Nat) (l0_0 : List Int) (l0_1 : List Int) : Option (Bool) := (laws_szGloves.f l0_0 l0_1 1048576).bind fun t428 => (if t428 < 0 then (some true) else ((laws_toGloves.f k l0_0 l0_1).bind fun bt429 => ((spec_LooseGloves.f k bt429.1 bt429.2).bind fun bt435 => ((laws_toGloves.f k l0_0 l0_1).bind fun bt443 => ((impl_LooseGloves.f k bt443.1 bt443.2).bind fun bt450 => ((laws_eqGloves.f k bt450.1 bt450.2.1 bt435.1 bt435.2.1).bind fun t458 => (if t458 = true then (laws_FnExactLooseGloves.j0 k bt435.2.2 bt450.2.2 (bt450.2.2 != bt435.2.2) l0_0 l0_1 bt435.1 bt435.2.1 bt443.1 bt443.2 bt450.1 bt450.2.1) else (laws_FnExactLooseGloves.j0 k bt435.2.2 bt450.2.2 true l0_0 l0_1 bt435.1 bt435.2.1 bt443.1 bt443.2 bt450.1 bt450.2.1))))))))
theorem laws_FnExactLooseGloves.mono_l : ∀ k, (∀ y0 y1 y2 y3 y4 y5 y6 y7 y8 y9 y10, LeO (laws_FnExactLooseGloves.j0 k y0 y1 y2 y3 y4 y5 y6 y7 y8 y9 y10) (laws_FnExactLooseGloves.j0 (k + 1) y0 y1 y2 y3 y4 y5 y6 y7 y8 y9 y10)) ∧ (∀ y0 y1 y2 y3 y4 y5 y6 y7, LeO (laws_FnExactLooseGloves.j1 k y0 y1 y2 y3 y4 y5 y6 y7) (laws_FnExactLooseGloves.j1 (k + 1) y0 y1 y2 y3 y4 y5 y6 y7)) ∧ (∀ y0 y1 y2 y3, LeO (laws_FnExactLooseGloves.j2 k y0 y1 y2 y3) (laws_FnExactLooseGloves.j2 (k + 1) y0 y1 y2 y3))
 | 0 => ⟨fun _ _ _ _ _ _ _ _ _ _ _ r h => by simp [laws_FnExactLooseGloves.j0] at h, fun _ _ _ _ _ _ _ _ r h => by simp [laws_FnExactLooseGloves.j1] at h, fun _ _ _ _ r h => by simp [laws_FnExactLooseGloves.j2] at h⟩
 | k + 1 => by
  obtain ⟨ih0, ih1, ih2⟩ := laws_FnExactLooseGloves.mono_l k
  refine ⟨?_, ?_, ?_⟩
  ·intro y0 y1 y2 y3 y4 y5 y6 y7 y8 y9 y10
   unfold laws_FnExactLooseGloves.j0
   repeat' first
   | (with_reducible exact ih0 _ _ _ _ _ _ _ _ _ _ _)
   | (with_reducible exact ih1 _ _ _ _ _ _ _ _)
   | (with_reducible exact ih2 _ _ _ _)
   | (with_reducible exact impl_LooseGloves.mono _ _ _)
   | (with_reducible exact laws_eqGloves.mono _ _ _ _ _)
   | (with_reducible exact laws_heldGloves.mono _ _ _ _)
   | (with_reducible exact laws_markGloves.mono _ _ _ _)
   | (with_reducible exact laws_toGloves.mono _ _ _)
   | (with_reducible exact spec_LooseGloves.mono _ _ _)
   | (with_reducible exact LeO.refl _)
   | (with_reducible exact LeO.none _)
   | (with_reducible refine LeO.ite ?_ ?_)
   | (with_reducible refine LeO.bind ?_ (fun _ => ?_))
   | exact ih0 _ _ _ _ _ _ _ _ _ _ _
   | exact ih1 _ _ _ _ _ _ _ _
   | exact ih2 _ _ _ _
   | exact impl_LooseGloves.mono _ _ _
   | exact laws_eqGloves.mono _ _ _ _ _
   | exact laws_heldGloves.mono _ _ _ _
   | exact laws_markGloves.mono _ _ _ _
   | exact laws_toGloves.mono _ _ _
   | exact spec_LooseGloves.mono _ _ _
   | exact LeO.none _
   | refine LeO.ite ?_ ?_
   | refine LeO.bind ?_ (fun _ => ?_)
  ·intro y0 y1 y2 y3 y4 y5 y6 y7
   unfold laws_FnExactLooseGloves.j1
   repeat' first
   | (with_reducible exact ih0 _ _ _ _ _ _ _ _ _ _ _)
   | (with_reducible exact ih1 _ _ _ _ _ _ _ _)
   | (with_reducible exact ih2 _ _ _ _)
   | (with_reducible exact impl_LooseGloves.mono _ _ _)
   | (with_reducible exact laws_eqGloves.mono _ _ _ _ _)
   | (with_reducible exact laws_heldGloves.mono _ _ _ _)
   | (with_reducible exact laws_markGloves.mono _ _ _ _)
   | (with_reducible exact laws_toGloves.mono _ _ _)
   | (with_reducible exact spec_LooseGloves.mono _ _ _)
   | (with_reducible exact LeO.refl _)
   | (with_reducible exact LeO.none _)
   | (with_reducible refine LeO.ite ?_ ?_)
   | (with_reducible refine LeO.bind ?_ (fun _ => ?_))
   | exact ih0 _ _ _ _ _ _ _ _ _ _ _
   | exact ih1 _ _ _ _ _ _ _ _
   | exact ih2 _ _ _ _
   | exact impl_LooseGloves.mono _ _ _
   | exact laws_eqGloves.mono _ _ _ _ _
   | exact laws_heldGloves.mono _ _ _ _
   | exact laws_markGloves.mono _ _ _ _
   | exact laws_toGloves.mono _ _ _
   | exact spec_LooseGloves.mono _ _ _
   | exact LeO.none _
   | refine LeO.ite ?_ ?_
   | refine LeO.bind ?_ (fun _ => ?_)
  ·intro y0 y1 y2 y3
   unfold laws_FnExactLooseGloves.j2
   repeat' first
   | (with_reducible exact ih0 _ _ _ _ _ _ _ _ _ _ _)
   | (with_reducible exact ih1 _ _ _ _ _ _ _ _)
   | (with_reducible exact ih2 _ _ _ _)
   | (with_reducible exact impl_LooseGloves.mono _ _ _)
   | (with_reducible exact laws_eqGloves.mono _ _ _ _ _)
   | (with_reducible exact laws_heldGloves.mono _ _ _ _)
   | (with_reducible exact laws_markGloves.mono _ _ _ _)
   | (with_reducible exact laws_toGloves.mono _ _ _)
   | (with_reducible exact spec_LooseGloves.mono _ _ _)
   | (with_reducible exact LeO.refl _)
   | (with_reducible exact LeO.none _)
   | (with_reducible refine LeO.ite ?_ ?_)
   | (with_reducible refine LeO.bind ?_ (fun _ => ?_))
   | exact ih0 _ _ _ _ _ _ _ _ _ _ _
   | exact ih1 _ _ _ _ _ _ _ _
   | exact ih2 _ _ _ _
   | exact impl_LooseGloves.mono _ _ _
   | exact laws_eqGloves.mono _ _ _ _ _
   | exact laws_heldGloves.mono _ _ _ _
   | exact laws_markGloves.mono _ _ _ _
   | exact laws_toGloves.mono _ _ _
   | exact spec_LooseGloves.mono _ _ _
   | exact LeO.none _
   | refine LeO.ite ?_ ?_
   | refine LeO.bind ?_ (fun _ => ?_)
theorem laws_FnExactLooseGloves.mono : ∀ a0 a1 k, LeO (laws_FnExactLooseGloves.f k a0 a1) (laws_FnExactLooseGloves.f (k + 1) a0 a1) := by
 intro a0 a1 k
 obtain ⟨ih0, ih1, ih2⟩ := laws_FnExactLooseGloves.mono_l k
 unfold laws_FnExactLooseGloves.f
 repeat' first
   | (with_reducible exact ih0 _ _ _ _ _ _ _ _ _ _ _)
   | (with_reducible exact ih1 _ _ _ _ _ _ _ _)
   | (with_reducible exact ih2 _ _ _ _)
   | (with_reducible exact impl_LooseGloves.mono _ _ _)
   | (with_reducible exact laws_eqGloves.mono _ _ _ _ _)
   | (with_reducible exact laws_heldGloves.mono _ _ _ _)
   | (with_reducible exact laws_markGloves.mono _ _ _ _)
   | (with_reducible exact laws_toGloves.mono _ _ _)
   | (with_reducible exact spec_LooseGloves.mono _ _ _)
   | (with_reducible exact LeO.refl _)
   | (with_reducible exact LeO.none _)
   | (with_reducible refine LeO.ite ?_ ?_)
   | (with_reducible refine LeO.bind ?_ (fun _ => ?_))
   | exact ih0 _ _ _ _ _ _ _ _ _ _ _
   | exact ih1 _ _ _ _ _ _ _ _
   | exact ih2 _ _ _ _
   | exact impl_LooseGloves.mono _ _ _
   | exact laws_eqGloves.mono _ _ _ _ _
   | exact laws_heldGloves.mono _ _ _ _
   | exact laws_markGloves.mono _ _ _ _
   | exact laws_toGloves.mono _ _ _
   | exact spec_LooseGloves.mono _ _ _
   | exact LeO.none _
   | refine LeO.ite ?_ ?_
   | refine LeO.bind ?_ (fun _ => ?_)
set_option maxHeartbeats 8000000 in
set_option maxRecDepth 100000 in
theorem laws_FnExactLooseGloves.calls (k : Nat) (A0_0 : Option Addr) (c0_0 : Nat) (l0_0 : List Int) (A0_1 : Option Addr) (c0_1 : Nat) (l0_1 : List Int) (r : Bool) (w : World) (hr0_0 : Kd.C (Kd.int .i64) w A0_0 l0_0.length l0_0) (hc0_0 : l0_0.length ≤ c0_0) (hr0_1 : Kd.C (Kd.int .i64) w A0_1 l0_1.length l0_1) (hc0_1 : l0_1.length ≤ c0_1) (h : laws_FnExactLooseGloves.f k l0_0 l0_1 = some r) :
  Calls Try.prog 12 #[.agg #[.slice A0_0 l0_0.length c0_0, .slice A0_1 l0_1.length c0_1]] w fun e w' => e = .returned (.bool r) ∧ Below w.heap.size w w' := by
 have hu24 := Try.underlying24
 have hu28 := Try.underlying28
 have HR0_0 := Aside0.mk hr0_0
 have HC0_0 := Aside0.mk hc0_0
 clear hr0_0 hc0_0
 have HR0_1 := Aside0.mk hr0_1
 have HC0_1 := Aside0.mk hc0_1
 clear hr0_1 hc0_1
 have HB := Aside0.mk (Below.refl w.heap.size w)
 have H : ((laws_szGloves.f l0_0 l0_1 1048576).bind fun t428 => (if t428 < 0 then (some true) else ((laws_toGloves.f k l0_0 l0_1).bind fun bt429 => ((spec_LooseGloves.f k bt429.1 bt429.2).bind fun bt435 => ((laws_toGloves.f k l0_0 l0_1).bind fun bt443 => ((impl_LooseGloves.f k bt443.1 bt443.2).bind fun bt450 => ((laws_eqGloves.f k bt450.1 bt450.2.1 bt435.1 bt435.2.1).bind fun t458 => (if t458 = true then (laws_FnExactLooseGloves.j0 k bt435.2.2 bt450.2.2 (bt450.2.2 != bt435.2.2) l0_0 l0_1 bt435.1 bt435.2.1 bt443.1 bt443.2 bt450.1 bt450.2.1) else (laws_FnExactLooseGloves.j0 k bt435.2.2 bt450.2.2 true l0_0 l0_1 bt435.1 bt435.2.1 bt443.1 bt443.2 bt450.1 bt450.2.1))))))))) = some r := h
 clear h
 replace H := Option.bind_eq_some_iff.mp H
 obtain ⟨t428, A20, H⟩ := H
 replace H : (if t428 < 0 then (some true) else ((laws_toGloves.f k l0_0 l0_1).bind fun bt429 => ((spec_LooseGloves.f k bt429.1 bt429.2).bind fun bt435 => ((laws_toGloves.f k l0_0 l0_1).bind fun bt443 => ((impl_LooseGloves.f k bt443.1 bt443.2).bind fun bt450 => ((laws_eqGloves.f k bt450.1 bt450.2.1 bt435.1 bt435.2.1).bind fun t458 => (if t458 = true then (laws_FnExactLooseGloves.j0 k bt435.2.2 bt450.2.2 (bt450.2.2 != bt435.2.2) l0_0 l0_1 bt435.1 bt435.2.1 bt443.1 bt443.2 bt450.1 bt450.2.1) else (laws_FnExactLooseGloves.j0 k bt435.2.2 bt450.2.2 true l0_0 l0_1 bt435.1 bt435.2.1 bt443.1 bt443.2 bt450.1 bt450.2.1)))))))) = some r := H
 have A2 := Aside0.mk A20
 clear A20
 by_cases c3 : t428 < 0
 ·rw [if_pos c3] at H
  have c3b0 : decide (t428 < 0) = true := decide_eq_true c3
  clear c3
  obtain rfl := Option.some.inj H
  go_enter Try.func12, Try.ntmps12
  go_wp2_with (first | ((with_reducible refine gate_dst (N := 1) rfl ?_); refine box_event ?hg (N := 1) ?hd (cs := #[.slice A0_0 l0_0.length c0_0, .slice A0_1 l0_1.length c0_1]) (t := 24) ?hr ?_; (case hd => rfl); (case hg => rfl); (case hr => first | (go_simp; done) | (go_simp; rfl)); intro gb427 hg w4 hbox hb; have n0_ := Aside0.mk (below_step (by repeat (first | (with_reducible first | exact HB.1 | apply below_alloc | apply pw_below_drewN | apply below_drew1) | exact HB.1)) hb); have n1_ := Aside0.mk (hbox); have n2_ := Aside0.mk ((by rw [hg]; exact (below_size (by repeat (first | (with_reducible first | exact HB.1 | apply below_alloc | apply pw_below_drewN | apply below_drew1) | exact HB.1))) : w.heap.size ≤ gb427)); have n3_ := Aside0.mk ((by rw [hg]; exact (below_size (by repeat (first | (with_reducible first | exact HB.1 | apply below_alloc | apply pw_below_drewN | apply below_drew1) | exact HB.1))) : w.heap.size ≤ gb427)); clear HB; have HB := n0_; have BK427 := n1_; have GW427 := n2_; have GE427 := n3_; clear n0_ n1_ n2_ n3_; clear hb hbox hg; have hcz5_0 : w4.cell? ⟨gb427, 0, none⟩ = some (.slice A0_0 l0_0.length c0_0) := (blk_cell BK427.1 0).trans rfl; have hcz5_1 : w4.cell? ⟨gb427, 1, none⟩ = some (.slice A0_1 l0_1.length c0_1) := (blk_cell BK427.1 1).trans rfl; have hfz5_0 := blk_frozen BK427.1 0; have hfz5_1 := blk_frozen BK427.1 1) | ((with_reducible refine gate_callee (f := 15) rfl ?_); refine goesL_ (some 16) rfl rfl Try.func15 (by kernel_rfl) rfl #[.agg #[.slice A0_0 l0_0.length c0_0, .slice A0_1 l0_1.length c0_1], .int .i64 1048576] rfl (by (try simp only [List.map_toArray, List.map_cons, List.map_nil]); first | done | rfl | (simp only [List.length_drop, List.length_take]; rfl)) ?_; (with_reducible refine (laws_szGloves.calls _ _ l0_0 _ _ l0_1 1048576 t428 _ ?side1 ?side2 ?side3 ?side4 A2.1).mono ?_); (case side1 => repeat (first | exact (Kd.C_below HR0_0.1 HB.1) | (with_reducible refine Kd.C_alloc ?_ _) | (with_reducible refine Kd.C_drewN ?_ _) | (with_reducible refine Kd.C_drew ?_))); (case side2 => exact HC0_0.1); (case side3 => repeat (first | exact (Kd.C_below HR0_1.1 HB.1) | (with_reducible refine Kd.C_alloc ?_ _) | (with_reducible refine Kd.C_drewN ?_ _) | (with_reducible refine Kd.C_drew ?_))); (case side4 => exact HC0_1.1); rintro e w6 ⟨rfl, hb⟩; refine ⟨_, rfl, ?_⟩; have n0_ := Aside0.mk (blk_below (g := gb427) (o := .cells #[.slice A0_0 l0_0.length c0_0, .slice A0_1 l0_1.length c0_1] 24 (0, 0)) (by (with_reducible repeat (first | refine blk_drewN ?_ _ | refine blk_drew ?_ | refine blk_alloc ?_ _)); exact BK427.1) hb); have n1_ := Aside0.mk (below_step (by repeat (first | (with_reducible first | exact HB.1 | apply below_alloc | apply pw_below_drewN | apply below_drew1 | refine below_set ?_ GE427.1) | exact HB.1)) hb); clear BK427; clear HB; have BK427 := n0_; have HB := n1_; clear n0_ n1_; (try clear hb); (try clear hb2); (try clear hk); (try clear hi)))
  go_ret
  exact ⟨by first | rfl | (simp [errW_none, errW_some] <;> rfl) | (simp [Go.IntWalk.i64_left]; done) | (simp [*, errW_none, errW_some] <;> rfl), by repeat (first | (with_reducible first | exact HB.1 | apply below_alloc | apply pw_below_drewN | apply below_drew1 | refine below_set ?_ GE427.1) | exact HB.1)⟩
 ·rw [if_neg c3] at H
  have c3b0 : decide (t428 < 0) = false := decide_eq_false c3
  clear c3
  replace H := Option.bind_eq_some_iff.mp H
  obtain ⟨⟨t429, t432⟩, A70, H⟩ := H
  replace H : ((spec_LooseGloves.f k t429 t432).bind fun bt435 => ((laws_toGloves.f k l0_0 l0_1).bind fun bt443 => ((impl_LooseGloves.f k bt443.1 bt443.2).bind fun bt450 => ((laws_eqGloves.f k bt450.1 bt450.2.1 bt435.1 bt435.2.1).bind fun t458 => (if t458 = true then (laws_FnExactLooseGloves.j0 k bt435.2.2 bt450.2.2 (bt450.2.2 != bt435.2.2) l0_0 l0_1 bt435.1 bt435.2.1 bt443.1 bt443.2 bt450.1 bt450.2.1) else (laws_FnExactLooseGloves.j0 k bt435.2.2 bt450.2.2 true l0_0 l0_1 bt435.1 bt435.2.1 bt443.1 bt443.2 bt450.1 bt450.2.1)))))) = some r := H
  have A7 := Aside0.mk A70
  clear A70
  replace H := Option.bind_eq_some_iff.mp H
  obtain ⟨⟨t435, t438, t441⟩, A80, H⟩ := H
  replace H : ((laws_toGloves.f k l0_0 l0_1).bind fun bt443 => ((impl_LooseGloves.f k bt443.1 bt443.2).bind fun bt450 => ((laws_eqGloves.f k bt450.1 bt450.2.1 t435 t438).bind fun t458 => (if t458 = true then (laws_FnExactLooseGloves.j0 k t441 bt450.2.2 (bt450.2.2 != t441) l0_0 l0_1 t435 t438 bt443.1 bt443.2 bt450.1 bt450.2.1) else (laws_FnExactLooseGloves.j0 k t441 bt450.2.2 true l0_0 l0_1 t435 t438 bt443.1 bt443.2 bt450.1 bt450.2.1))))) = some r := H
  have A8 := Aside0.mk A80
  clear A80
  replace H := Option.bind_eq_some_iff.mp H
  obtain ⟨⟨t443, t446⟩, A90, H⟩ := H
  replace H : ((impl_LooseGloves.f k t443 t446).bind fun bt450 => ((laws_eqGloves.f k bt450.1 bt450.2.1 t435 t438).bind fun t458 => (if t458 = true then (laws_FnExactLooseGloves.j0 k t441 bt450.2.2 (bt450.2.2 != t441) l0_0 l0_1 t435 t438 t443 t446 bt450.1 bt450.2.1) else (laws_FnExactLooseGloves.j0 k t441 bt450.2.2 true l0_0 l0_1 t435 t438 t443 t446 bt450.1 bt450.2.1)))) = some r := H
  have A9 := Aside0.mk A90
  clear A90
  replace H := Option.bind_eq_some_iff.mp H
  obtain ⟨⟨t450, t453, t456⟩, A100, H⟩ := H
  replace H : ((laws_eqGloves.f k t450 t453 t435 t438).bind fun t458 => (if t458 = true then (laws_FnExactLooseGloves.j0 k t441 t456 (t456 != t441) l0_0 l0_1 t435 t438 t443 t446 t450 t453) else (laws_FnExactLooseGloves.j0 k t441 t456 true l0_0 l0_1 t435 t438 t443 t446 t450 t453))) = some r := H
  have A10 := Aside0.mk A100
  clear A100
  have HC11 := Aside0.mk H
  clear H
  go_enter Try.func12, Try.ntmps12
  go_upto_region 8 with (first | ((with_reducible refine gate_dst (N := 1) rfl ?_); refine box_event ?hg (N := 1) ?hd (cs := #[.slice A0_0 l0_0.length c0_0, .slice A0_1 l0_1.length c0_1]) (t := 24) ?hr ?_; (case hd => rfl); (case hg => rfl); (case hr => first | (go_simp; done) | (go_simp; rfl)); intro gb427 hg w12 hbox hb; have n0_ := Aside0.mk (below_step (by repeat (first | (with_reducible first | exact HB.1 | apply below_alloc | apply pw_below_drewN | apply below_drew1) | exact HB.1)) hb); have n1_ := Aside0.mk (hbox); have n2_ := Aside0.mk ((by rw [hg]; exact (below_size (by repeat (first | (with_reducible first | exact HB.1 | apply below_alloc | apply pw_below_drewN | apply below_drew1) | exact HB.1))) : w.heap.size ≤ gb427)); have n3_ := Aside0.mk ((by rw [hg]; exact (below_size (by repeat (first | (with_reducible first | exact HB.1 | apply below_alloc | apply pw_below_drewN | apply below_drew1) | exact HB.1))) : w.heap.size ≤ gb427)); clear HB; have HB := n0_; have BK427 := n1_; have GW427 := n2_; have GE427 := n3_; clear n0_ n1_ n2_ n3_; clear hb hbox hg; have hcz13_0 : w12.cell? ⟨gb427, 0, none⟩ = some (.slice A0_0 l0_0.length c0_0) := (blk_cell BK427.1 0).trans rfl; have hcz13_1 : w12.cell? ⟨gb427, 1, none⟩ = some (.slice A0_1 l0_1.length c0_1) := (blk_cell BK427.1 1).trans rfl; have hfz13_0 := blk_frozen BK427.1 0; have hfz13_1 := blk_frozen BK427.1 1) | ((with_reducible refine gate_callee (f := 15) rfl ?_); refine goesL_ (some 16) rfl rfl Try.func15 (by kernel_rfl) rfl #[.agg #[.slice A0_0 l0_0.length c0_0, .slice A0_1 l0_1.length c0_1], .int .i64 1048576] rfl (by (try simp only [List.map_toArray, List.map_cons, List.map_nil]); first | done | rfl | (simp only [List.length_drop, List.length_take]; rfl)) ?_; (with_reducible refine (laws_szGloves.calls _ _ l0_0 _ _ l0_1 1048576 t428 _ ?side1 ?side2 ?side3 ?side4 A2.1).mono ?_); (case side1 => repeat (first | exact (Kd.C_below HR0_0.1 HB.1) | (with_reducible refine Kd.C_alloc ?_ _) | (with_reducible refine Kd.C_drewN ?_ _) | (with_reducible refine Kd.C_drew ?_))); (case side2 => exact HC0_0.1); (case side3 => repeat (first | exact (Kd.C_below HR0_1.1 HB.1) | (with_reducible refine Kd.C_alloc ?_ _) | (with_reducible refine Kd.C_drewN ?_ _) | (with_reducible refine Kd.C_drew ?_))); (case side4 => exact HC0_1.1); rintro e w14 ⟨rfl, hb⟩; refine ⟨_, rfl, ?_⟩; have n0_ := Aside0.mk (blk_below (g := gb427) (o := .cells #[.slice A0_0 l0_0.length c0_0, .slice A0_1 l0_1.length c0_1] 24 (0, 0)) (by (with_reducible repeat (first | refine blk_drewN ?_ _ | refine blk_drew ?_ | refine blk_alloc ?_ _)); exact BK427.1) hb); have n1_ := Aside0.mk (below_step (by repeat (first | (with_reducible first | exact HB.1 | apply below_alloc | apply pw_below_drewN | apply below_drew1 | refine below_set ?_ GE427.1) | exact HB.1)) hb); clear BK427; clear HB; have BK427 := n0_; have HB := n1_; clear n0_ n1_; (try clear hb); (try clear hb2); (try clear hk); (try clear hi); have hcz15_0 : w14.cell? ⟨gb427, 0, none⟩ = some (.slice A0_0 l0_0.length c0_0) := (blk_cell BK427.1 0).trans rfl; have hcz15_1 : w14.cell? ⟨gb427, 1, none⟩ = some (.slice A0_1 l0_1.length c0_1) := (blk_cell BK427.1 1).trans rfl; have hfz15_0 := blk_frozen BK427.1 0; have hfz15_1 := blk_frozen BK427.1 1) | ((with_reducible refine gate_callee (f := 17) rfl ?_); refine goesL_ (some 21) rfl rfl Try.func17 (by kernel_rfl) rfl #[.agg #[.slice A0_0 l0_0.length c0_0, .slice A0_1 l0_1.length c0_1]] rfl (by (try simp only [List.map_toArray, List.map_cons, List.map_nil]); first | done | rfl | (simp only [List.length_drop, List.length_take]; rfl)) ?_; (with_reducible refine (laws_toGloves.calls k _ _ l0_0 _ _ l0_1 t429 t432 _ ?side1 ?side2 ?side3 ?side4 A7.1).mono ?_); (case side1 => repeat (first | exact (Kd.C_below HR0_0.1 HB.1) | (with_reducible refine Kd.C_alloc ?_ _) | (with_reducible refine Kd.C_drewN ?_ _) | (with_reducible refine Kd.C_drew ?_))); (case side2 => exact HC0_0.1); (case side3 => repeat (first | exact (Kd.C_below HR0_1.1 HB.1) | (with_reducible refine Kd.C_alloc ?_ _) | (with_reducible refine Kd.C_drewN ?_ _) | (with_reducible refine Kd.C_drew ?_))); (case side4 => exact HC0_1.1); rintro e w16 ⟨v430, v433, rfl, ho0, ho1, hb⟩; refine ⟨_, rfl, ?_⟩; have n0_ := Aside0.mk (Kd.R_lower ho0 (below_size (by repeat (first | (with_reducible first | exact HB.1 | apply below_alloc | apply pw_below_drewN | apply below_drew1 | refine below_set ?_ GE427.1) | exact HB.1)))); have n1_ := Aside0.mk (Kd.R_lower ho1 (below_size (by repeat (first | (with_reducible first | exact HB.1 | apply below_alloc | apply pw_below_drewN | apply below_drew1 | refine below_set ?_ GE427.1) | exact HB.1)))); have n2_ := Aside0.mk (blk_below (g := gb427) (o := .cells #[.slice A0_0 l0_0.length c0_0, .slice A0_1 l0_1.length c0_1] 24 (0, 0)) (by (with_reducible repeat (first | refine blk_drewN ?_ _ | refine blk_drew ?_ | refine blk_alloc ?_ _)); exact BK427.1) hb); have n3_ := Aside0.mk (below_step (by repeat (first | (with_reducible first | exact HB.1 | apply below_alloc | apply pw_below_drewN | apply below_drew1 | refine below_set ?_ GE427.1) | exact HB.1)) hb); clear BK427; clear HB; have HO431 := n0_; have HO434 := n1_; have BK427 := n2_; have HB := n3_; clear n0_ n1_ n2_ n3_; (try clear hb); (try clear hb2); (try clear hk); (try clear hi); (try clear ho0); (try clear ho1); obtain ⟨Ao17, co17, eo17⟩ := Kd.R_slice HO431.1; subst eo17; obtain ⟨Ao18, co18, eo18⟩ := Kd.R_slice HO434.1; subst eo18) | ((with_reducible refine gate_callee (f := 38) rfl ?_); refine goesL_ (some 22) rfl rfl Try.func38 (by kernel_rfl) rfl #[.agg #[.slice Ao17 t429.length co17, .slice Ao18 t432.length co18]] rfl (by (try simp only [List.map_toArray, List.map_cons, List.map_nil]); first | done | rfl | (simp only [List.length_drop, List.length_take]; rfl)) ?_; (with_reducible refine (spec_LooseGloves.calls k _ _ t429 _ _ t432 t435 t438 t441 _ ?side1 ?side2 ?side3 ?side4 A8.1).mono ?_); (case side1 => repeat (first | exact (Kd.R_reads' HO431.1).2.2 | (with_reducible refine Kd.C_alloc ?_ _) | (with_reducible refine Kd.C_drewN ?_ _) | (with_reducible refine Kd.C_drew ?_))); (case side2 => exact (Kd.R_reads' HO431.1).2.1); (case side3 => repeat (first | exact (Kd.R_reads' HO434.1).2.2 | (with_reducible refine Kd.C_alloc ?_ _) | (with_reducible refine Kd.C_drewN ?_ _) | (with_reducible refine Kd.C_drew ?_))); (case side4 => exact (Kd.R_reads' HO434.1).2.1); rintro e w19 ⟨v436, v439, rfl, ho0, ho1, hb⟩; refine ⟨_, rfl, ?_⟩; have n0_ := Aside0.mk (Kd.R_mono (Kd.R_told (Kd.R_told (Kd.R_old (by (with_reducible repeat (first | apply Kd.R_alloc | apply Kd.R_drewN | apply Kd.R_drew)); exact HO431.1) hb) (Kd.R_base ho0)) (Kd.R_base ho1)) (fun _ h_ => h_.1)); have n1_ := Aside0.mk (Kd.R_mono (Kd.R_told (Kd.R_told (Kd.R_old (by (with_reducible repeat (first | apply Kd.R_alloc | apply Kd.R_drewN | apply Kd.R_drew)); exact HO434.1) hb) (Kd.R_base ho0)) (Kd.R_base ho1)) (fun _ h_ => h_.1)); have n2_ := Aside0.mk (Kd.R_lower (Kd.R_new' (Kd.R_new' ho0 (Kd.R_lt (by (with_reducible repeat (first | apply Kd.R_alloc | apply Kd.R_drewN | apply Kd.R_drew)); exact HO431.1))) (Kd.R_lt (by (with_reducible repeat (first | apply Kd.R_alloc | apply Kd.R_drewN | apply Kd.R_drew)); exact HO434.1))) (below_size (by repeat (first | (with_reducible first | exact HB.1 | apply below_alloc | apply pw_below_drewN | apply below_drew1 | refine below_set ?_ GE427.1) | exact HB.1)))); have n3_ := Aside0.mk (Kd.R_lower (Kd.R_new' (Kd.R_new' ho1 (Kd.R_lt (by (with_reducible repeat (first | apply Kd.R_alloc | apply Kd.R_drewN | apply Kd.R_drew)); exact HO431.1))) (Kd.R_lt (by (with_reducible repeat (first | apply Kd.R_alloc | apply Kd.R_drewN | apply Kd.R_drew)); exact HO434.1))) (below_size (by repeat (first | (with_reducible first | exact HB.1 | apply below_alloc | apply pw_below_drewN | apply below_drew1 | refine below_set ?_ GE427.1) | exact HB.1)))); have n4_ := Aside0.mk (blk_below (g := gb427) (o := .cells #[.slice A0_0 l0_0.length c0_0, .slice A0_1 l0_1.length c0_1] 24 (0, 0)) (by (with_reducible repeat (first | refine blk_drewN ?_ _ | refine blk_drew ?_ | refine blk_alloc ?_ _)); exact BK427.1) hb); have n5_ := Aside0.mk (below_step (by repeat (first | (with_reducible first | exact HB.1 | apply below_alloc | apply pw_below_drewN | apply below_drew1 | refine below_set ?_ GE427.1) | exact HB.1)) hb); clear HO431; clear HO434; clear BK427; clear HB; have HO431 := n0_; have HO434 := n1_; have HO437 := n2_; have HO440 := n3_; have BK427 := n4_; have HB := n5_; clear n0_ n1_ n2_ n3_ n4_ n5_; (try clear hb); (try clear hb2); (try clear hk); (try clear hi); (try clear ho0); (try clear ho1)) | ((with_reducible refine gate_dst (N := 4) rfl ?_); refine box_event ?hg (N := 4) ?hd (cs := #[.slice none 0 0, .slice none 0 0]) (t := 28) ?hr ?_; (case hd => rfl); (case hg => rfl); (case hr => first | (go_simp; done) | (go_simp; rfl)); intro gb442 hg w20 hbox hb; have n0_ := Aside0.mk (Kd.R_below (by (with_reducible repeat (first | apply Kd.R_alloc | apply Kd.R_drewN | apply Kd.R_drew)); exact HO431.1) hb); have n1_ := Aside0.mk (Kd.R_below (by (with_reducible repeat (first | apply Kd.R_alloc | apply Kd.R_drewN | apply Kd.R_drew)); exact HO434.1) hb); have n2_ := Aside0.mk (Kd.R_below (by (with_reducible repeat (first | apply Kd.R_alloc | apply Kd.R_drewN | apply Kd.R_drew)); exact HO437.1) hb); have n3_ := Aside0.mk (Kd.R_below (by (with_reducible repeat (first | apply Kd.R_alloc | apply Kd.R_drewN | apply Kd.R_drew)); exact HO440.1) hb); have n4_ := Aside0.mk (blk_below (g := gb427) (o := .cells #[.slice A0_0 l0_0.length c0_0, .slice A0_1 l0_1.length c0_1] 24 (0, 0)) (by (with_reducible repeat (first | refine blk_drewN ?_ _ | refine blk_drew ?_ | refine blk_alloc ?_ _)); exact BK427.1) hb); have n5_ := Aside0.mk (below_step (by repeat (first | (with_reducible first | exact HB.1 | apply below_alloc | apply pw_below_drewN | apply below_drew1 | refine below_set ?_ GE427.1) | exact HB.1)) hb); have n6_ := Aside0.mk (hbox); have n7_ := Aside0.mk ((by rw [hg]; exact (below_size (by repeat (first | (with_reducible first | exact HB.1 | apply below_alloc | apply pw_below_drewN | apply below_drew1 | refine below_set ?_ GE427.1) | exact HB.1))) : w.heap.size ≤ gb442)); have n8_ := Aside0.mk ((by rw [hg]; exact (below_size (by repeat (first | (with_reducible first | exact HB.1 | apply below_alloc | apply pw_below_drewN | apply below_drew1 | refine below_set ?_ GE427.1) | exact HB.1))) : w.heap.size ≤ gb442)); have n9_ := Aside0.mk ((by rw [hg]; exact Nat.ne_of_lt (blk_lt (g := gb427) (o := .cells #[.slice A0_0 l0_0.length c0_0, .slice A0_1 l0_1.length c0_1] 24 (0, 0)) (by (with_reducible repeat (first | refine blk_drewN ?_ _ | refine blk_drew ?_ | refine blk_alloc ?_ _)); exact BK427.1)) : gb427 ≠ gb442)); have n10_ := Aside0.mk ((by rw [hg]; exact Nat.ne_of_gt (blk_lt (g := gb427) (o := .cells #[.slice A0_0 l0_0.length c0_0, .slice A0_1 l0_1.length c0_1] 24 (0, 0)) (by (with_reducible repeat (first | refine blk_drewN ?_ _ | refine blk_drew ?_ | refine blk_alloc ?_ _)); exact BK427.1)) : gb442 ≠ gb427)); clear HO431; clear HO434; clear HO437; clear HO440; clear BK427; clear HB; have HO431 := n0_; have HO434 := n1_; have HO437 := n2_; have HO440 := n3_; have BK427 := n4_; have HB := n5_; have BK442 := n6_; have GW442 := n7_; have GE442 := n8_; have NB427_442 := n9_; have NB442_427 := n10_; clear n0_ n1_ n2_ n3_ n4_ n5_ n6_ n7_ n8_ n9_ n10_; clear hb hbox hg; obtain ⟨Ao21, co21, eo21⟩ := Kd.R_slice HO437.1; subst eo21; have hnb22 := NB442_427.1; have hnc22 := NB427_442.1; have hcz23_0 : w20.cell? ⟨gb442, 0, none⟩ = some (.slice none 0 0) := (blk_cell BK442.1 0).trans rfl; have hcz23_1 : w20.cell? ⟨gb442, 1, none⟩ = some (.slice none 0 0) := (blk_cell BK442.1 1).trans rfl; have hfz23_0 := blk_frozen BK442.1 0; have hfz23_1 := blk_frozen BK442.1 1; obtain ⟨Ao24, co24, eo24⟩ := Kd.R_slice HO440.1; subst eo24; have hcz25_0 : w20.cell? ⟨gb427, 0, none⟩ = some (.slice A0_0 l0_0.length c0_0) := (blk_cell BK427.1 0).trans rfl; have hcz25_1 : w20.cell? ⟨gb427, 1, none⟩ = some (.slice A0_1 l0_1.length c0_1) := (blk_cell BK427.1 1).trans rfl; have hfz25_0 := blk_frozen BK427.1 0; have hfz25_1 := blk_frozen BK427.1 1) | ((with_reducible refine gate_callee (f := 17) rfl ?_); refine goesL_ (some 26) rfl rfl Try.func17 (by kernel_rfl) rfl #[.agg #[.slice A0_0 l0_0.length c0_0, .slice A0_1 l0_1.length c0_1]] rfl (by (try simp only [List.map_toArray, List.map_cons, List.map_nil]); first | done | rfl | (simp only [List.length_drop, List.length_take]; rfl)) ?_; (with_reducible refine (laws_toGloves.calls k _ _ l0_0 _ _ l0_1 t443 t446 _ ?side1 ?side2 ?side3 ?side4 A9.1).mono ?_); (case side1 => exact Kd.C_below HR0_0.1 (by repeat (first | (with_reducible first | exact HB.1 | apply below_alloc | apply pw_below_drewN | apply below_drew1 | refine below_set ?_ GE427.1 | refine below_set ?_ GE442.1) | exact HB.1))); (case side2 => exact HC0_0.1); (case side3 => exact Kd.C_below HR0_1.1 (by repeat (first | (with_reducible first | exact HB.1 | apply below_alloc | apply pw_below_drewN | apply below_drew1 | refine below_set ?_ GE427.1 | refine below_set ?_ GE442.1) | exact HB.1))); (case side4 => exact HC0_1.1); rintro e w26 ⟨v444, v447, rfl, ho0, ho1, hb⟩; refine ⟨_, rfl, ?_⟩; have n0_ := Aside0.mk (Kd.R_mono (Kd.R_told (Kd.R_told (Kd.R_old (by (with_reducible repeat (first | apply Kd.R_alloc | apply Kd.R_drewN | apply Kd.R_drew)); exact (Kd.R_mono (Kd.R_far (p := ⟨gb442, 1, none⟩) (Kd.R_far (p := ⟨gb442, 0, none⟩) (Kd.R_types HO431.1 BK442.1 (by decide)) (fun _ hk => hk.2) (.slice Ao21 t435.length co21)) (fun _ hk => hk.2) (.slice Ao24 t438.length co24)) (fun _ h_ => h_.1))) hb) (Kd.R_base ho0)) (Kd.R_base ho1)) (fun _ h_ => h_.1)); have n1_ := Aside0.mk (Kd.R_mono (Kd.R_told (Kd.R_told (Kd.R_old (by (with_reducible repeat (first | apply Kd.R_alloc | apply Kd.R_drewN | apply Kd.R_drew)); exact (Kd.R_mono (Kd.R_far (p := ⟨gb442, 1, none⟩) (Kd.R_far (p := ⟨gb442, 0, none⟩) (Kd.R_types HO434.1 BK442.1 (by decide)) (fun _ hk => hk.2) (.slice Ao21 t435.length co21)) (fun _ hk => hk.2) (.slice Ao24 t438.length co24)) (fun _ h_ => h_.1))) hb) (Kd.R_base ho0)) (Kd.R_base ho1)) (fun _ h_ => h_.1)); have n2_ := Aside0.mk (Kd.R_mono (Kd.R_told (Kd.R_told (Kd.R_old (by (with_reducible repeat (first | apply Kd.R_alloc | apply Kd.R_drewN | apply Kd.R_drew)); exact (Kd.R_mono (Kd.R_far (p := ⟨gb442, 1, none⟩) (Kd.R_far (p := ⟨gb442, 0, none⟩) (Kd.R_types HO437.1 BK442.1 (by decide)) (fun _ hk => hk.2) (.slice Ao21 t435.length co21)) (fun _ hk => hk.2) (.slice Ao24 t438.length co24)) (fun _ h_ => h_.1))) hb) (Kd.R_base ho0)) (Kd.R_base ho1)) (fun _ h_ => h_.1)); have n3_ := Aside0.mk (Kd.R_mono (Kd.R_told (Kd.R_told (Kd.R_old (by (with_reducible repeat (first | apply Kd.R_alloc | apply Kd.R_drewN | apply Kd.R_drew)); exact (Kd.R_mono (Kd.R_far (p := ⟨gb442, 1, none⟩) (Kd.R_far (p := ⟨gb442, 0, none⟩) (Kd.R_types HO440.1 BK442.1 (by decide)) (fun _ hk => hk.2) (.slice Ao21 t435.length co21)) (fun _ hk => hk.2) (.slice Ao24 t438.length co24)) (fun _ h_ => h_.1))) hb) (Kd.R_base ho0)) (Kd.R_base ho1)) (fun _ h_ => h_.1)); have n4_ := Aside0.mk (Kd.R_lower (Kd.R_new' (Kd.R_new' (Kd.R_new' (Kd.R_new' ho0 (Kd.R_lt (by (with_reducible repeat (first | apply Kd.R_alloc | apply Kd.R_drewN | apply Kd.R_drew)); exact (Kd.R_mono (Kd.R_far (p := ⟨gb442, 1, none⟩) (Kd.R_far (p := ⟨gb442, 0, none⟩) (Kd.R_types HO431.1 BK442.1 (by decide)) (fun _ hk => hk.2) (.slice Ao21 t435.length co21)) (fun _ hk => hk.2) (.slice Ao24 t438.length co24)) (fun _ h_ => h_.1))))) (Kd.R_lt (by (with_reducible repeat (first | apply Kd.R_alloc | apply Kd.R_drewN | apply Kd.R_drew)); exact (Kd.R_mono (Kd.R_far (p := ⟨gb442, 1, none⟩) (Kd.R_far (p := ⟨gb442, 0, none⟩) (Kd.R_types HO434.1 BK442.1 (by decide)) (fun _ hk => hk.2) (.slice Ao21 t435.length co21)) (fun _ hk => hk.2) (.slice Ao24 t438.length co24)) (fun _ h_ => h_.1))))) (Kd.R_lt (by (with_reducible repeat (first | apply Kd.R_alloc | apply Kd.R_drewN | apply Kd.R_drew)); exact (Kd.R_mono (Kd.R_far (p := ⟨gb442, 1, none⟩) (Kd.R_far (p := ⟨gb442, 0, none⟩) (Kd.R_types HO437.1 BK442.1 (by decide)) (fun _ hk => hk.2) (.slice Ao21 t435.length co21)) (fun _ hk => hk.2) (.slice Ao24 t438.length co24)) (fun _ h_ => h_.1))))) (Kd.R_lt (by (with_reducible repeat (first | apply Kd.R_alloc | apply Kd.R_drewN | apply Kd.R_drew)); exact (Kd.R_mono (Kd.R_far (p := ⟨gb442, 1, none⟩) (Kd.R_far (p := ⟨gb442, 0, none⟩) (Kd.R_types HO440.1 BK442.1 (by decide)) (fun _ hk => hk.2) (.slice Ao21 t435.length co21)) (fun _ hk => hk.2) (.slice Ao24 t438.length co24)) (fun _ h_ => h_.1))))) (below_size (by repeat (first | (with_reducible first | exact HB.1 | apply below_alloc | apply pw_below_drewN | apply below_drew1 | refine below_set ?_ GE427.1 | refine below_set ?_ GE442.1) | exact HB.1)))); have n5_ := Aside0.mk (Kd.R_lower (Kd.R_new' (Kd.R_new' (Kd.R_new' (Kd.R_new' ho1 (Kd.R_lt (by (with_reducible repeat (first | apply Kd.R_alloc | apply Kd.R_drewN | apply Kd.R_drew)); exact (Kd.R_mono (Kd.R_far (p := ⟨gb442, 1, none⟩) (Kd.R_far (p := ⟨gb442, 0, none⟩) (Kd.R_types HO431.1 BK442.1 (by decide)) (fun _ hk => hk.2) (.slice Ao21 t435.length co21)) (fun _ hk => hk.2) (.slice Ao24 t438.length co24)) (fun _ h_ => h_.1))))) (Kd.R_lt (by (with_reducible repeat (first | apply Kd.R_alloc | apply Kd.R_drewN | apply Kd.R_drew)); exact (Kd.R_mono (Kd.R_far (p := ⟨gb442, 1, none⟩) (Kd.R_far (p := ⟨gb442, 0, none⟩) (Kd.R_types HO434.1 BK442.1 (by decide)) (fun _ hk => hk.2) (.slice Ao21 t435.length co21)) (fun _ hk => hk.2) (.slice Ao24 t438.length co24)) (fun _ h_ => h_.1))))) (Kd.R_lt (by (with_reducible repeat (first | apply Kd.R_alloc | apply Kd.R_drewN | apply Kd.R_drew)); exact (Kd.R_mono (Kd.R_far (p := ⟨gb442, 1, none⟩) (Kd.R_far (p := ⟨gb442, 0, none⟩) (Kd.R_types HO437.1 BK442.1 (by decide)) (fun _ hk => hk.2) (.slice Ao21 t435.length co21)) (fun _ hk => hk.2) (.slice Ao24 t438.length co24)) (fun _ h_ => h_.1))))) (Kd.R_lt (by (with_reducible repeat (first | apply Kd.R_alloc | apply Kd.R_drewN | apply Kd.R_drew)); exact (Kd.R_mono (Kd.R_far (p := ⟨gb442, 1, none⟩) (Kd.R_far (p := ⟨gb442, 0, none⟩) (Kd.R_types HO440.1 BK442.1 (by decide)) (fun _ hk => hk.2) (.slice Ao21 t435.length co21)) (fun _ hk => hk.2) (.slice Ao24 t438.length co24)) (fun _ h_ => h_.1))))) (below_size (by repeat (first | (with_reducible first | exact HB.1 | apply below_alloc | apply pw_below_drewN | apply below_drew1 | refine below_set ?_ GE427.1 | refine below_set ?_ GE442.1) | exact HB.1)))); have n6_ := Aside0.mk (blk_below (g := gb427) (o := .cells #[.slice A0_0 l0_0.length c0_0, .slice A0_1 l0_1.length c0_1] 24 (0, 0)) (by (with_reducible repeat (first | refine blk_drewN ?_ _ | refine blk_drew ?_ | refine blk_alloc ?_ _)); refine blk_far ?_ NB427_442.1 _; (with_reducible repeat (first | refine blk_drewN ?_ _ | refine blk_drew ?_ | refine blk_alloc ?_ _)); refine blk_far ?_ NB427_442.1 _; (with_reducible repeat (first | refine blk_drewN ?_ _ | refine blk_drew ?_ | refine blk_alloc ?_ _)); exact BK427.1) hb); have n7_ := Aside0.mk (blk_below (g := gb442) (o := .cells #[.slice Ao21 t435.length co21, .slice Ao24 t438.length co24] 28 (0, 0)) (by (with_reducible repeat (first | refine blk_drewN ?_ _ | refine blk_drew ?_ | refine blk_alloc ?_ _)); refine blk_put (cs := #[.slice Ao21 t435.length co21, .slice none 0 0]) ?_ 1 _ rfl; (with_reducible repeat (first | refine blk_drewN ?_ _ | refine blk_drew ?_ | refine blk_alloc ?_ _)); refine blk_put (cs := #[.slice none 0 0, .slice none 0 0]) ?_ 0 _ rfl; (with_reducible repeat (first | refine blk_drewN ?_ _ | refine blk_drew ?_ | refine blk_alloc ?_ _)); exact BK442.1) hb); have n8_ := Aside0.mk (below_step (by repeat (first | (with_reducible first | exact HB.1 | apply below_alloc | apply pw_below_drewN | apply below_drew1 | refine below_set ?_ GE427.1 | refine below_set ?_ GE442.1) | exact HB.1)) hb); clear HO431; clear HO434; clear HO437; clear HO440; clear BK427; clear BK442; clear HB; have HO431 := n0_; have HO434 := n1_; have HO437 := n2_; have HO440 := n3_; have HO445 := n4_; have HO448 := n5_; have BK427 := n6_; have BK442 := n7_; have HB := n8_; clear n0_ n1_ n2_ n3_ n4_ n5_ n6_ n7_ n8_; (try clear hb); (try clear hb2); (try clear hk); (try clear hi); (try clear ho0); (try clear ho1)) | ((with_reducible refine gate_dst (N := 6) rfl ?_); refine box_event ?hg (N := 6) ?hd (cs := #[.slice none 0 0, .slice none 0 0]) (t := 28) ?hr ?_; (case hd => rfl); (case hg => rfl); (case hr => first | (go_simp; done) | (go_simp; rfl)); intro gb449 hg w27 hbox hb; have n0_ := Aside0.mk (Kd.R_below (by (with_reducible repeat (first | apply Kd.R_alloc | apply Kd.R_drewN | apply Kd.R_drew)); exact HO431.1) hb); have n1_ := Aside0.mk (Kd.R_below (by (with_reducible repeat (first | apply Kd.R_alloc | apply Kd.R_drewN | apply Kd.R_drew)); exact HO434.1) hb); have n2_ := Aside0.mk (Kd.R_below (by (with_reducible repeat (first | apply Kd.R_alloc | apply Kd.R_drewN | apply Kd.R_drew)); exact HO437.1) hb); have n3_ := Aside0.mk (Kd.R_below (by (with_reducible repeat (first | apply Kd.R_alloc | apply Kd.R_drewN | apply Kd.R_drew)); exact HO440.1) hb); have n4_ := Aside0.mk (Kd.R_below (by (with_reducible repeat (first | apply Kd.R_alloc | apply Kd.R_drewN | apply Kd.R_drew)); exact HO445.1) hb); have n5_ := Aside0.mk (Kd.R_below (by (with_reducible repeat (first | apply Kd.R_alloc | apply Kd.R_drewN | apply Kd.R_drew)); exact HO448.1) hb); have n6_ := Aside0.mk (blk_below (g := gb427) (o := .cells #[.slice A0_0 l0_0.length c0_0, .slice A0_1 l0_1.length c0_1] 24 (0, 0)) (by (with_reducible repeat (first | refine blk_drewN ?_ _ | refine blk_drew ?_ | refine blk_alloc ?_ _)); exact BK427.1) hb); have n7_ := Aside0.mk (blk_below (g := gb442) (o := .cells #[.slice Ao21 t435.length co21, .slice Ao24 t438.length co24] 28 (0, 0)) (by (with_reducible repeat (first | refine blk_drewN ?_ _ | refine blk_drew ?_ | refine blk_alloc ?_ _)); exact BK442.1) hb); have n8_ := Aside0.mk (below_step (by repeat (first | (with_reducible first | exact HB.1 | apply below_alloc | apply pw_below_drewN | apply below_drew1 | refine below_set ?_ GE427.1 | refine below_set ?_ GE442.1) | exact HB.1)) hb); have n9_ := Aside0.mk (hbox); have n10_ := Aside0.mk ((by rw [hg]; exact (below_size (by repeat (first | (with_reducible first | exact HB.1 | apply below_alloc | apply pw_below_drewN | apply below_drew1 | refine below_set ?_ GE427.1 | refine below_set ?_ GE442.1) | exact HB.1))) : w.heap.size ≤ gb449)); have n11_ := Aside0.mk ((by rw [hg]; exact (below_size (by repeat (first | (with_reducible first | exact HB.1 | apply below_alloc | apply pw_below_drewN | apply below_drew1 | refine below_set ?_ GE427.1 | refine below_set ?_ GE442.1) | exact HB.1))) : w.heap.size ≤ gb449)); have n12_ := Aside0.mk ((by rw [hg]; exact Nat.ne_of_lt (blk_lt (g := gb427) (o := .cells #[.slice A0_0 l0_0.length c0_0, .slice A0_1 l0_1.length c0_1] 24 (0, 0)) (by (with_reducible repeat (first | refine blk_drewN ?_ _ | refine blk_drew ?_ | refine blk_alloc ?_ _)); exact BK427.1)) : gb427 ≠ gb449)); have n13_ := Aside0.mk ((by rw [hg]; exact Nat.ne_of_gt (blk_lt (g := gb427) (o := .cells #[.slice A0_0 l0_0.length c0_0, .slice A0_1 l0_1.length c0_1] 24 (0, 0)) (by (with_reducible repeat (first | refine blk_drewN ?_ _ | refine blk_drew ?_ | refine blk_alloc ?_ _)); exact BK427.1)) : gb449 ≠ gb427)); have n14_ := Aside0.mk ((by rw [hg]; exact Nat.ne_of_lt (blk_lt (g := gb442) (o := .cells #[.slice Ao21 t435.length co21, .slice Ao24 t438.length co24] 28 (0, 0)) (by (with_reducible repeat (first | refine blk_drewN ?_ _ | refine blk_drew ?_ | refine blk_alloc ?_ _)); exact BK442.1)) : gb442 ≠ gb449)); have n15_ := Aside0.mk ((by rw [hg]; exact Nat.ne_of_gt (blk_lt (g := gb442) (o := .cells #[.slice Ao21 t435.length co21, .slice Ao24 t438.length co24] 28 (0, 0)) (by (with_reducible repeat (first | refine blk_drewN ?_ _ | refine blk_drew ?_ | refine blk_alloc ?_ _)); exact BK442.1)) : gb449 ≠ gb442)); clear HO431; clear HO434; clear HO437; clear HO440; clear HO445; clear HO448; clear BK427; clear BK442; clear HB; have HO431 := n0_; have HO434 := n1_; have HO437 := n2_; have HO440 := n3_; have HO445 := n4_; have HO448 := n5_; have BK427 := n6_; have BK442 := n7_; have HB := n8_; have BK449 := n9_; have GW449 := n10_; have GE449 := n11_; have NB427_449 := n12_; have NB449_427 := n13_; have NB442_449 := n14_; have NB449_442 := n15_; clear n0_ n1_ n2_ n3_ n4_ n5_ n6_ n7_ n8_ n9_ n10_ n11_ n12_ n13_ n14_ n15_; clear hb hbox hg; obtain ⟨Ao28, co28, eo28⟩ := Kd.R_slice HO445.1; subst eo28; have hnb29 := NB449_427.1; have hnc29 := NB427_449.1; have hnb30 := NB449_442.1; have hnc30 := NB442_449.1; have hcz31_0 : w27.cell? ⟨gb449, 0, none⟩ = some (.slice none 0 0) := (blk_cell BK449.1 0).trans rfl; have hcz31_1 : w27.cell? ⟨gb449, 1, none⟩ = some (.slice none 0 0) := (blk_cell BK449.1 1).trans rfl; have hfz31_0 := blk_frozen BK449.1 0; have hfz31_1 := blk_frozen BK449.1 1; obtain ⟨Ao32, co32, eo32⟩ := Kd.R_slice HO448.1; subst eo32) | ((with_reducible refine gate_callee (f := 39) rfl ?_); refine goesL_ (some 29) rfl rfl Try.func39 (by kernel_rfl) rfl #[.agg #[.slice Ao28 t443.length co28, .slice Ao32 t446.length co32]] rfl (by (try simp only [List.map_toArray, List.map_cons, List.map_nil]); first | done | rfl | (simp only [List.length_drop, List.length_take]; rfl)) ?_; (with_reducible refine (impl_LooseGloves.calls k _ _ t443 _ _ t446 t450 t453 t456 _ ?side1 ?side2 ?side3 ?side4 A10.1).mono ?_); (case side1 => refine (Kd.R_reads' (e := 3) (base := w.heap.size) (ok := fun k_ => ((((some k_ ≠ (.slice Ao32 t446.length co32 : Value).ownBlock ∧ some k_ ≠ (.slice Ao17 t429.length co17 : Value).ownBlock) ∧ some k_ ≠ (.slice Ao18 t432.length co18 : Value).ownBlock) ∧ some k_ ≠ (.slice Ao21 t435.length co21 : Value).ownBlock) ∧ some k_ ≠ (.slice Ao24 t438.length co24 : Value).ownBlock)) (n := t443.length) (c := co28) ?_).2.2; exact (by (with_reducible repeat (first | apply Kd.R_alloc | apply Kd.R_drewN | apply Kd.R_drew)); exact (Kd.R_mono (Kd.R_far (p := ⟨gb449, 1, none⟩) (Kd.R_far (p := ⟨gb449, 0, none⟩) (Kd.R_types HO445.1 BK449.1 (by decide)) (fun _ hk => hk.2) (.slice Ao28 t443.length co28)) (fun _ hk => hk.2) (.slice Ao32 t446.length co32)) (fun _ h_ => h_.1)))); (case side2 => exact (Kd.R_reads' HO445.1).2.1); (case side3 => refine (Kd.R_reads' (e := 3) (base := w.heap.size) (ok := fun k_ => ((((some k_ ≠ (.slice Ao28 t443.length co28 : Value).ownBlock ∧ some k_ ≠ (.slice Ao17 t429.length co17 : Value).ownBlock) ∧ some k_ ≠ (.slice Ao18 t432.length co18 : Value).ownBlock) ∧ some k_ ≠ (.slice Ao21 t435.length co21 : Value).ownBlock) ∧ some k_ ≠ (.slice Ao24 t438.length co24 : Value).ownBlock)) (n := t446.length) (c := co32) ?_).2.2; exact (by (with_reducible repeat (first | apply Kd.R_alloc | apply Kd.R_drewN | apply Kd.R_drew)); exact (Kd.R_mono (Kd.R_far (p := ⟨gb449, 1, none⟩) (Kd.R_far (p := ⟨gb449, 0, none⟩) (Kd.R_types HO448.1 BK449.1 (by decide)) (fun _ hk => hk.2) (.slice Ao28 t443.length co28)) (fun _ hk => hk.2) (.slice Ao32 t446.length co32)) (fun _ h_ => h_.1)))); (case side4 => exact (Kd.R_reads' HO448.1).2.1); rintro e w33 ⟨v451, v454, rfl, ho0, ho1, hb⟩; refine ⟨_, rfl, ?_⟩; have n0_ := Aside0.mk (Kd.R_mono (Kd.R_told (Kd.R_told (Kd.R_old (by (with_reducible repeat (first | apply Kd.R_alloc | apply Kd.R_drewN | apply Kd.R_drew)); exact (Kd.R_mono (Kd.R_far (p := ⟨gb449, 1, none⟩) (Kd.R_far (p := ⟨gb449, 0, none⟩) (Kd.R_types HO431.1 BK449.1 (by decide)) (fun _ hk => hk.2) (.slice Ao28 t443.length co28)) (fun _ hk => hk.2) (.slice Ao32 t446.length co32)) (fun _ h_ => h_.1))) hb) (Kd.R_base ho0)) (Kd.R_base ho1)) (fun _ h_ => h_.1)); have n1_ := Aside0.mk (Kd.R_mono (Kd.R_told (Kd.R_told (Kd.R_old (by (with_reducible repeat (first | apply Kd.R_alloc | apply Kd.R_drewN | apply Kd.R_drew)); exact (Kd.R_mono (Kd.R_far (p := ⟨gb449, 1, none⟩) (Kd.R_far (p := ⟨gb449, 0, none⟩) (Kd.R_types HO434.1 BK449.1 (by decide)) (fun _ hk => hk.2) (.slice Ao28 t443.length co28)) (fun _ hk => hk.2) (.slice Ao32 t446.length co32)) (fun _ h_ => h_.1))) hb) (Kd.R_base ho0)) (Kd.R_base ho1)) (fun _ h_ => h_.1)); have n2_ := Aside0.mk (Kd.R_mono (Kd.R_told (Kd.R_told (Kd.R_old (by (with_reducible repeat (first | apply Kd.R_alloc | apply Kd.R_drewN | apply Kd.R_drew)); exact (Kd.R_mono (Kd.R_far (p := ⟨gb449, 1, none⟩) (Kd.R_far (p := ⟨gb449, 0, none⟩) (Kd.R_types HO437.1 BK449.1 (by decide)) (fun _ hk => hk.2) (.slice Ao28 t443.length co28)) (fun _ hk => hk.2) (.slice Ao32 t446.length co32)) (fun _ h_ => h_.1))) hb) (Kd.R_base ho0)) (Kd.R_base ho1)) (fun _ h_ => h_.1)); have n3_ := Aside0.mk (Kd.R_mono (Kd.R_told (Kd.R_told (Kd.R_old (by (with_reducible repeat (first | apply Kd.R_alloc | apply Kd.R_drewN | apply Kd.R_drew)); exact (Kd.R_mono (Kd.R_far (p := ⟨gb449, 1, none⟩) (Kd.R_far (p := ⟨gb449, 0, none⟩) (Kd.R_types HO440.1 BK449.1 (by decide)) (fun _ hk => hk.2) (.slice Ao28 t443.length co28)) (fun _ hk => hk.2) (.slice Ao32 t446.length co32)) (fun _ h_ => h_.1))) hb) (Kd.R_base ho0)) (Kd.R_base ho1)) (fun _ h_ => h_.1)); have n4_ := Aside0.mk (Kd.R_mono (Kd.R_told (Kd.R_told (Kd.R_old (by (with_reducible repeat (first | apply Kd.R_alloc | apply Kd.R_drewN | apply Kd.R_drew)); exact (Kd.R_mono (Kd.R_far (p := ⟨gb449, 1, none⟩) (Kd.R_far (p := ⟨gb449, 0, none⟩) (Kd.R_types HO445.1 BK449.1 (by decide)) (fun _ hk => hk.2) (.slice Ao28 t443.length co28)) (fun _ hk => hk.2) (.slice Ao32 t446.length co32)) (fun _ h_ => h_.1))) hb) (Kd.R_base ho0)) (Kd.R_base ho1)) (fun _ h_ => h_.1)); have n5_ := Aside0.mk (Kd.R_mono (Kd.R_told (Kd.R_told (Kd.R_old (by (with_reducible repeat (first | apply Kd.R_alloc | apply Kd.R_drewN | apply Kd.R_drew)); exact (Kd.R_mono (Kd.R_far (p := ⟨gb449, 1, none⟩) (Kd.R_far (p := ⟨gb449, 0, none⟩) (Kd.R_types HO448.1 BK449.1 (by decide)) (fun _ hk => hk.2) (.slice Ao28 t443.length co28)) (fun _ hk => hk.2) (.slice Ao32 t446.length co32)) (fun _ h_ => h_.1))) hb) (Kd.R_base ho0)) (Kd.R_base ho1)) (fun _ h_ => h_.1)); have n6_ := Aside0.mk (Kd.R_lower (Kd.R_new' (Kd.R_new' (Kd.R_new' (Kd.R_new' (Kd.R_new' (Kd.R_new' ho0 (Kd.R_lt (by (with_reducible repeat (first | apply Kd.R_alloc | apply Kd.R_drewN | apply Kd.R_drew)); exact (Kd.R_mono (Kd.R_far (p := ⟨gb449, 1, none⟩) (Kd.R_far (p := ⟨gb449, 0, none⟩) (Kd.R_types HO431.1 BK449.1 (by decide)) (fun _ hk => hk.2) (.slice Ao28 t443.length co28)) (fun _ hk => hk.2) (.slice Ao32 t446.length co32)) (fun _ h_ => h_.1))))) (Kd.R_lt (by (with_reducible repeat (first | apply Kd.R_alloc | apply Kd.R_drewN | apply Kd.R_drew)); exact (Kd.R_mono (Kd.R_far (p := ⟨gb449, 1, none⟩) (Kd.R_far (p := ⟨gb449, 0, none⟩) (Kd.R_types HO434.1 BK449.1 (by decide)) (fun _ hk => hk.2) (.slice Ao28 t443.length co28)) (fun _ hk => hk.2) (.slice Ao32 t446.length co32)) (fun _ h_ => h_.1))))) (Kd.R_lt (by (with_reducible repeat (first | apply Kd.R_alloc | apply Kd.R_drewN | apply Kd.R_drew)); exact (Kd.R_mono (Kd.R_far (p := ⟨gb449, 1, none⟩) (Kd.R_far (p := ⟨gb449, 0, none⟩) (Kd.R_types HO437.1 BK449.1 (by decide)) (fun _ hk => hk.2) (.slice Ao28 t443.length co28)) (fun _ hk => hk.2) (.slice Ao32 t446.length co32)) (fun _ h_ => h_.1))))) (Kd.R_lt (by (with_reducible repeat (first | apply Kd.R_alloc | apply Kd.R_drewN | apply Kd.R_drew)); exact (Kd.R_mono (Kd.R_far (p := ⟨gb449, 1, none⟩) (Kd.R_far (p := ⟨gb449, 0, none⟩) (Kd.R_types HO440.1 BK449.1 (by decide)) (fun _ hk => hk.2) (.slice Ao28 t443.length co28)) (fun _ hk => hk.2) (.slice Ao32 t446.length co32)) (fun _ h_ => h_.1))))) (Kd.R_lt (by (with_reducible repeat (first | apply Kd.R_alloc | apply Kd.R_drewN | apply Kd.R_drew)); exact (Kd.R_mono (Kd.R_far (p := ⟨gb449, 1, none⟩) (Kd.R_far (p := ⟨gb449, 0, none⟩) (Kd.R_types HO445.1 BK449.1 (by decide)) (fun _ hk => hk.2) (.slice Ao28 t443.length co28)) (fun _ hk => hk.2) (.slice Ao32 t446.length co32)) (fun _ h_ => h_.1))))) (Kd.R_lt (by (with_reducible repeat (first | apply Kd.R_alloc | apply Kd.R_drewN | apply Kd.R_drew)); exact (Kd.R_mono (Kd.R_far (p := ⟨gb449, 1, none⟩) (Kd.R_far (p := ⟨gb449, 0, none⟩) (Kd.R_types HO448.1 BK449.1 (by decide)) (fun _ hk => hk.2) (.slice Ao28 t443.length co28)) (fun _ hk => hk.2) (.slice Ao32 t446.length co32)) (fun _ h_ => h_.1))))) (below_size (by repeat (first | (with_reducible first | exact HB.1 | apply below_alloc | apply pw_below_drewN | apply below_drew1 | refine below_set ?_ GE427.1 | refine below_set ?_ GE442.1 | refine below_set ?_ GE449.1) | exact HB.1)))); have n7_ := Aside0.mk (Kd.R_lower (Kd.R_new' (Kd.R_new' (Kd.R_new' (Kd.R_new' (Kd.R_new' (Kd.R_new' ho1 (Kd.R_lt (by (with_reducible repeat (first | apply Kd.R_alloc | apply Kd.R_drewN | apply Kd.R_drew)); exact (Kd.R_mono (Kd.R_far (p := ⟨gb449, 1, none⟩) (Kd.R_far (p := ⟨gb449, 0, none⟩) (Kd.R_types HO431.1 BK449.1 (by decide)) (fun _ hk => hk.2) (.slice Ao28 t443.length co28)) (fun _ hk => hk.2) (.slice Ao32 t446.length co32)) (fun _ h_ => h_.1))))) (Kd.R_lt (by (with_reducible repeat (first | apply Kd.R_alloc | apply Kd.R_drewN | apply Kd.R_drew)); exact (Kd.R_mono (Kd.R_far (p := ⟨gb449, 1, none⟩) (Kd.R_far (p := ⟨gb449, 0, none⟩) (Kd.R_types HO434.1 BK449.1 (by decide)) (fun _ hk => hk.2) (.slice Ao28 t443.length co28)) (fun _ hk => hk.2) (.slice Ao32 t446.length co32)) (fun _ h_ => h_.1))))) (Kd.R_lt (by (with_reducible repeat (first | apply Kd.R_alloc | apply Kd.R_drewN | apply Kd.R_drew)); exact (Kd.R_mono (Kd.R_far (p := ⟨gb449, 1, none⟩) (Kd.R_far (p := ⟨gb449, 0, none⟩) (Kd.R_types HO437.1 BK449.1 (by decide)) (fun _ hk => hk.2) (.slice Ao28 t443.length co28)) (fun _ hk => hk.2) (.slice Ao32 t446.length co32)) (fun _ h_ => h_.1))))) (Kd.R_lt (by (with_reducible repeat (first | apply Kd.R_alloc | apply Kd.R_drewN | apply Kd.R_drew)); exact (Kd.R_mono (Kd.R_far (p := ⟨gb449, 1, none⟩) (Kd.R_far (p := ⟨gb449, 0, none⟩) (Kd.R_types HO440.1 BK449.1 (by decide)) (fun _ hk => hk.2) (.slice Ao28 t443.length co28)) (fun _ hk => hk.2) (.slice Ao32 t446.length co32)) (fun _ h_ => h_.1))))) (Kd.R_lt (by (with_reducible repeat (first | apply Kd.R_alloc | apply Kd.R_drewN | apply Kd.R_drew)); exact (Kd.R_mono (Kd.R_far (p := ⟨gb449, 1, none⟩) (Kd.R_far (p := ⟨gb449, 0, none⟩) (Kd.R_types HO445.1 BK449.1 (by decide)) (fun _ hk => hk.2) (.slice Ao28 t443.length co28)) (fun _ hk => hk.2) (.slice Ao32 t446.length co32)) (fun _ h_ => h_.1))))) (Kd.R_lt (by (with_reducible repeat (first | apply Kd.R_alloc | apply Kd.R_drewN | apply Kd.R_drew)); exact (Kd.R_mono (Kd.R_far (p := ⟨gb449, 1, none⟩) (Kd.R_far (p := ⟨gb449, 0, none⟩) (Kd.R_types HO448.1 BK449.1 (by decide)) (fun _ hk => hk.2) (.slice Ao28 t443.length co28)) (fun _ hk => hk.2) (.slice Ao32 t446.length co32)) (fun _ h_ => h_.1))))) (below_size (by repeat (first | (with_reducible first | exact HB.1 | apply below_alloc | apply pw_below_drewN | apply below_drew1 | refine below_set ?_ GE427.1 | refine below_set ?_ GE442.1 | refine below_set ?_ GE449.1) | exact HB.1)))); have n8_ := Aside0.mk (blk_below (g := gb427) (o := .cells #[.slice A0_0 l0_0.length c0_0, .slice A0_1 l0_1.length c0_1] 24 (0, 0)) (by (with_reducible repeat (first | refine blk_drewN ?_ _ | refine blk_drew ?_ | refine blk_alloc ?_ _)); refine blk_far ?_ NB427_449.1 _; (with_reducible repeat (first | refine blk_drewN ?_ _ | refine blk_drew ?_ | refine blk_alloc ?_ _)); refine blk_far ?_ NB427_449.1 _; (with_reducible repeat (first | refine blk_drewN ?_ _ | refine blk_drew ?_ | refine blk_alloc ?_ _)); exact BK427.1) hb); have n9_ := Aside0.mk (blk_below (g := gb442) (o := .cells #[.slice Ao21 t435.length co21, .slice Ao24 t438.length co24] 28 (0, 0)) (by (with_reducible repeat (first | refine blk_drewN ?_ _ | refine blk_drew ?_ | refine blk_alloc ?_ _)); refine blk_far ?_ NB442_449.1 _; (with_reducible repeat (first | refine blk_drewN ?_ _ | refine blk_drew ?_ | refine blk_alloc ?_ _)); refine blk_far ?_ NB442_449.1 _; (with_reducible repeat (first | refine blk_drewN ?_ _ | refine blk_drew ?_ | refine blk_alloc ?_ _)); exact BK442.1) hb); have n10_ := Aside0.mk (blk_below (g := gb449) (o := .cells #[.slice Ao28 t443.length co28, .slice Ao32 t446.length co32] 28 (0, 0)) (by (with_reducible repeat (first | refine blk_drewN ?_ _ | refine blk_drew ?_ | refine blk_alloc ?_ _)); refine blk_put (cs := #[.slice Ao28 t443.length co28, .slice none 0 0]) ?_ 1 _ rfl; (with_reducible repeat (first | refine blk_drewN ?_ _ | refine blk_drew ?_ | refine blk_alloc ?_ _)); refine blk_put (cs := #[.slice none 0 0, .slice none 0 0]) ?_ 0 _ rfl; (with_reducible repeat (first | refine blk_drewN ?_ _ | refine blk_drew ?_ | refine blk_alloc ?_ _)); exact BK449.1) hb); have n11_ := Aside0.mk (below_step (by repeat (first | (with_reducible first | exact HB.1 | apply below_alloc | apply pw_below_drewN | apply below_drew1 | refine below_set ?_ GE427.1 | refine below_set ?_ GE442.1 | refine below_set ?_ GE449.1) | exact HB.1)) hb); clear HO431; clear HO434; clear HO437; clear HO440; clear HO445; clear HO448; clear BK427; clear BK442; clear BK449; clear HB; have HO431 := n0_; have HO434 := n1_; have HO437 := n2_; have HO440 := n3_; have HO445 := n4_; have HO448 := n5_; have HO452 := n6_; have HO455 := n7_; have BK427 := n8_; have BK442 := n9_; have BK449 := n10_; have HB := n11_; clear n0_ n1_ n2_ n3_ n4_ n5_ n6_ n7_ n8_ n9_ n10_ n11_; (try clear hb); (try clear hb2); (try clear hk); (try clear hi); (try clear ho0); (try clear ho1)) | ((with_reducible refine gate_dst (N := 7) rfl ?_); refine box_event ?hg (N := 7) ?hd (cs := #[.slice none 0 0, .slice none 0 0]) (t := 28) ?hr ?_; (case hd => rfl); (case hg => rfl); (case hr => first | (go_simp; done) | (go_simp; rfl)); intro gb457 hg w34 hbox hb; have n0_ := Aside0.mk (Kd.R_below (by (with_reducible repeat (first | apply Kd.R_alloc | apply Kd.R_drewN | apply Kd.R_drew)); exact HO431.1) hb); have n1_ := Aside0.mk (Kd.R_below (by (with_reducible repeat (first | apply Kd.R_alloc | apply Kd.R_drewN | apply Kd.R_drew)); exact HO434.1) hb); have n2_ := Aside0.mk (Kd.R_below (by (with_reducible repeat (first | apply Kd.R_alloc | apply Kd.R_drewN | apply Kd.R_drew)); exact HO437.1) hb); have n3_ := Aside0.mk (Kd.R_below (by (with_reducible repeat (first | apply Kd.R_alloc | apply Kd.R_drewN | apply Kd.R_drew)); exact HO440.1) hb); have n4_ := Aside0.mk (Kd.R_below (by (with_reducible repeat (first | apply Kd.R_alloc | apply Kd.R_drewN | apply Kd.R_drew)); exact HO445.1) hb); have n5_ := Aside0.mk (Kd.R_below (by (with_reducible repeat (first | apply Kd.R_alloc | apply Kd.R_drewN | apply Kd.R_drew)); exact HO448.1) hb); have n6_ := Aside0.mk (Kd.R_below (by (with_reducible repeat (first | apply Kd.R_alloc | apply Kd.R_drewN | apply Kd.R_drew)); exact HO452.1) hb); have n7_ := Aside0.mk (Kd.R_below (by (with_reducible repeat (first | apply Kd.R_alloc | apply Kd.R_drewN | apply Kd.R_drew)); exact HO455.1) hb); have n8_ := Aside0.mk (blk_below (g := gb427) (o := .cells #[.slice A0_0 l0_0.length c0_0, .slice A0_1 l0_1.length c0_1] 24 (0, 0)) (by (with_reducible repeat (first | refine blk_drewN ?_ _ | refine blk_drew ?_ | refine blk_alloc ?_ _)); exact BK427.1) hb); have n9_ := Aside0.mk (blk_below (g := gb442) (o := .cells #[.slice Ao21 t435.length co21, .slice Ao24 t438.length co24] 28 (0, 0)) (by (with_reducible repeat (first | refine blk_drewN ?_ _ | refine blk_drew ?_ | refine blk_alloc ?_ _)); exact BK442.1) hb); have n10_ := Aside0.mk (blk_below (g := gb449) (o := .cells #[.slice Ao28 t443.length co28, .slice Ao32 t446.length co32] 28 (0, 0)) (by (with_reducible repeat (first | refine blk_drewN ?_ _ | refine blk_drew ?_ | refine blk_alloc ?_ _)); exact BK449.1) hb); have n11_ := Aside0.mk (below_step (by repeat (first | (with_reducible first | exact HB.1 | apply below_alloc | apply pw_below_drewN | apply below_drew1 | refine below_set ?_ GE427.1 | refine below_set ?_ GE442.1 | refine below_set ?_ GE449.1) | exact HB.1)) hb); have n12_ := Aside0.mk (hbox); have n13_ := Aside0.mk ((by rw [hg]; exact (below_size (by repeat (first | (with_reducible first | exact HB.1 | apply below_alloc | apply pw_below_drewN | apply below_drew1 | refine below_set ?_ GE427.1 | refine below_set ?_ GE442.1 | refine below_set ?_ GE449.1) | exact HB.1))) : w.heap.size ≤ gb457)); have n14_ := Aside0.mk ((by rw [hg]; exact (below_size (by repeat (first | (with_reducible first | exact HB.1 | apply below_alloc | apply pw_below_drewN | apply below_drew1 | refine below_set ?_ GE427.1 | refine below_set ?_ GE442.1 | refine below_set ?_ GE449.1) | exact HB.1))) : w.heap.size ≤ gb457)); have n15_ := Aside0.mk ((by rw [hg]; exact Nat.ne_of_lt (blk_lt (g := gb427) (o := .cells #[.slice A0_0 l0_0.length c0_0, .slice A0_1 l0_1.length c0_1] 24 (0, 0)) (by (with_reducible repeat (first | refine blk_drewN ?_ _ | refine blk_drew ?_ | refine blk_alloc ?_ _)); exact BK427.1)) : gb427 ≠ gb457)); have n16_ := Aside0.mk ((by rw [hg]; exact Nat.ne_of_gt (blk_lt (g := gb427) (o := .cells #[.slice A0_0 l0_0.length c0_0, .slice A0_1 l0_1.length c0_1] 24 (0, 0)) (by (with_reducible repeat (first | refine blk_drewN ?_ _ | refine blk_drew ?_ | refine blk_alloc ?_ _)); exact BK427.1)) : gb457 ≠ gb427)); have n17_ := Aside0.mk ((by rw [hg]; exact Nat.ne_of_lt (blk_lt (g := gb442) (o := .cells #[.slice Ao21 t435.length co21, .slice Ao24 t438.length co24] 28 (0, 0)) (by (with_reducible repeat (first | refine blk_drewN ?_ _ | refine blk_drew ?_ | refine blk_alloc ?_ _)); exact BK442.1)) : gb442 ≠ gb457)); have n18_ := Aside0.mk ((by rw [hg]; exact Nat.ne_of_gt (blk_lt (g := gb442) (o := .cells #[.slice Ao21 t435.length co21, .slice Ao24 t438.length co24] 28 (0, 0)) (by (with_reducible repeat (first | refine blk_drewN ?_ _ | refine blk_drew ?_ | refine blk_alloc ?_ _)); exact BK442.1)) : gb457 ≠ gb442)); have n19_ := Aside0.mk ((by rw [hg]; exact Nat.ne_of_lt (blk_lt (g := gb449) (o := .cells #[.slice Ao28 t443.length co28, .slice Ao32 t446.length co32] 28 (0, 0)) (by (with_reducible repeat (first | refine blk_drewN ?_ _ | refine blk_drew ?_ | refine blk_alloc ?_ _)); exact BK449.1)) : gb449 ≠ gb457)); have n20_ := Aside0.mk ((by rw [hg]; exact Nat.ne_of_gt (blk_lt (g := gb449) (o := .cells #[.slice Ao28 t443.length co28, .slice Ao32 t446.length co32] 28 (0, 0)) (by (with_reducible repeat (first | refine blk_drewN ?_ _ | refine blk_drew ?_ | refine blk_alloc ?_ _)); exact BK449.1)) : gb457 ≠ gb449)); clear HO431; clear HO434; clear HO437; clear HO440; clear HO445; clear HO448; clear HO452; clear HO455; clear BK427; clear BK442; clear BK449; clear HB; have HO431 := n0_; have HO434 := n1_; have HO437 := n2_; have HO440 := n3_; have HO445 := n4_; have HO448 := n5_; have HO452 := n6_; have HO455 := n7_; have BK427 := n8_; have BK442 := n9_; have BK449 := n10_; have HB := n11_; have BK457 := n12_; have GW457 := n13_; have GE457 := n14_; have NB427_457 := n15_; have NB457_427 := n16_; have NB442_457 := n17_; have NB457_442 := n18_; have NB449_457 := n19_; have NB457_449 := n20_; clear n0_ n1_ n2_ n3_ n4_ n5_ n6_ n7_ n8_ n9_ n10_ n11_ n12_ n13_ n14_ n15_ n16_ n17_ n18_ n19_ n20_; clear hb hbox hg; obtain ⟨Ao35, co35, eo35⟩ := Kd.R_slice HO452.1; subst eo35; have hnb36 := NB457_427.1; have hnc36 := NB427_457.1; have hnb37 := NB457_442.1; have hnc37 := NB442_457.1; have hnb38 := NB457_449.1; have hnc38 := NB449_457.1; have hcz39_0 : w34.cell? ⟨gb457, 0, none⟩ = some (.slice none 0 0) := (blk_cell BK457.1 0).trans rfl; have hcz39_1 : w34.cell? ⟨gb457, 1, none⟩ = some (.slice none 0 0) := (blk_cell BK457.1 1).trans rfl; have hfz39_0 := blk_frozen BK457.1 0; have hfz39_1 := blk_frozen BK457.1 1; obtain ⟨Ao40, co40, eo40⟩ := Kd.R_slice HO455.1; subst eo40))
  (try simp only [Act.put, List.setIfInBounds_toArray, List.set_cons_zero, List.set_cons_succ])
  go_cut [40] (fun v40 wc => ∃ (kq : Nat) (x40_10 : Bool), v40 = .bool x40_10 ∧ Aside0 (laws_FnExactLooseGloves.j0 kq t441 t456 x40_10 l0_0 l0_1 t435 t438 t443 t446 t450 t453 = some r) ∧ Aside0 (kq ≤ k) ∧ Aside0 (Kd.R (Kd.int .i64) 3 wc w.heap.size (fun k_ => some k_ ≠ ((.slice Ao24 t438.length co24) : Value).ownBlock ∧ some k_ ≠ ((.slice Ao28 t443.length co28) : Value).ownBlock ∧ some k_ ≠ ((.slice Ao32 t446.length co32) : Value).ownBlock ∧ some k_ ≠ ((.slice Ao35 t450.length co35) : Value).ownBlock ∧ some k_ ≠ ((.slice Ao40 t453.length co40) : Value).ownBlock) (.slice Ao21 t435.length co21) t435) ∧ Aside0 (Kd.R (Kd.int .i64) 3 wc w.heap.size (fun k_ => some k_ ≠ ((.slice Ao21 t435.length co21) : Value).ownBlock ∧ some k_ ≠ ((.slice Ao28 t443.length co28) : Value).ownBlock ∧ some k_ ≠ ((.slice Ao32 t446.length co32) : Value).ownBlock ∧ some k_ ≠ ((.slice Ao35 t450.length co35) : Value).ownBlock ∧ some k_ ≠ ((.slice Ao40 t453.length co40) : Value).ownBlock) (.slice Ao24 t438.length co24) t438) ∧ Aside0 (Kd.R (Kd.int .i64) 3 wc w.heap.size (fun k_ => some k_ ≠ ((.slice Ao21 t435.length co21) : Value).ownBlock ∧ some k_ ≠ ((.slice Ao24 t438.length co24) : Value).ownBlock ∧ some k_ ≠ ((.slice Ao32 t446.length co32) : Value).ownBlock ∧ some k_ ≠ ((.slice Ao35 t450.length co35) : Value).ownBlock ∧ some k_ ≠ ((.slice Ao40 t453.length co40) : Value).ownBlock) (.slice Ao28 t443.length co28) t443) ∧ Aside0 (Kd.R (Kd.int .i64) 3 wc w.heap.size (fun k_ => some k_ ≠ ((.slice Ao21 t435.length co21) : Value).ownBlock ∧ some k_ ≠ ((.slice Ao24 t438.length co24) : Value).ownBlock ∧ some k_ ≠ ((.slice Ao28 t443.length co28) : Value).ownBlock ∧ some k_ ≠ ((.slice Ao35 t450.length co35) : Value).ownBlock ∧ some k_ ≠ ((.slice Ao40 t453.length co40) : Value).ownBlock) (.slice Ao32 t446.length co32) t446) ∧ Aside0 (Kd.R (Kd.int .i64) 3 wc w.heap.size (fun k_ => some k_ ≠ ((.slice Ao21 t435.length co21) : Value).ownBlock ∧ some k_ ≠ ((.slice Ao24 t438.length co24) : Value).ownBlock ∧ some k_ ≠ ((.slice Ao28 t443.length co28) : Value).ownBlock ∧ some k_ ≠ ((.slice Ao32 t446.length co32) : Value).ownBlock ∧ some k_ ≠ ((.slice Ao40 t453.length co40) : Value).ownBlock) (.slice Ao35 t450.length co35) t450) ∧ Aside0 (Kd.R (Kd.int .i64) 3 wc w.heap.size (fun k_ => some k_ ≠ ((.slice Ao21 t435.length co21) : Value).ownBlock ∧ some k_ ≠ ((.slice Ao24 t438.length co24) : Value).ownBlock ∧ some k_ ≠ ((.slice Ao28 t443.length co28) : Value).ownBlock ∧ some k_ ≠ ((.slice Ao32 t446.length co32) : Value).ownBlock ∧ some k_ ≠ ((.slice Ao35 t450.length co35) : Value).ownBlock) (.slice Ao40 t453.length co40) t453) ∧ Aside0 (wc.heap[gb427]? = some (.cells #[(.slice A0_0 l0_0.length c0_0), (.slice A0_1 l0_1.length c0_1)] 24 (0, 0))) ∧ Aside0 (wc.heap[gb442]? = some (.cells #[(.slice Ao21 t435.length co21), (.slice Ao24 t438.length co24)] 28 (0, 0))) ∧ Aside0 (wc.heap[gb449]? = some (.cells #[(.slice Ao28 t443.length co28), (.slice Ao32 t446.length co32)] 28 (0, 0))) ∧ Aside0 (wc.heap[gb457]? = some (.cells #[(.slice Ao35 t450.length co35), (.slice Ao40 t453.length co40)] 28 (0, 0))) ∧ Aside0 (Below w.heap.size w wc))
  case first =>
   have H := HC11.1
   clear HC11
   replace H := Option.bind_eq_some_iff.mp H
   obtain ⟨t458, A410, H⟩ := H
   replace H : (if t458 = true then (laws_FnExactLooseGloves.j0 k t441 t456 (t456 != t441) l0_0 l0_1 t435 t438 t443 t446 t450 t453) else (laws_FnExactLooseGloves.j0 k t441 t456 true l0_0 l0_1 t435 t438 t443 t446 t450 t453)) = some r := H
   have A41 := Aside0.mk A410
   clear A410
   by_cases c42 : t458 = true
   ·subst c42
    have H1 : (laws_FnExactLooseGloves.j0 k t441 t456 (t456 != t441) l0_0 l0_1 t435 t438 t443 t446 t450 t453) = some r := by rw [if_pos rfl] at H; exact H
    clear H
    have H := H1
    clear H1
    have H' := Aside0.mk H
    clear H
    have hnb43 := NB457_427.1
    have hnc43 := NB427_457.1
    have hnb44 := NB457_442.1
    have hnc44 := NB442_457.1
    have hnb45 := NB457_449.1
    have hnc45 := NB449_457.1
    have hcz46_0 : w34.cell? ⟨gb457, 0, none⟩ = some (.slice none 0 0) := (blk_cell BK457.1 0).trans rfl
    have hcz46_1 : w34.cell? ⟨gb457, 1, none⟩ = some (.slice none 0 0) := (blk_cell BK457.1 1).trans rfl
    have hfz46_0 := blk_frozen BK457.1 0
    have hfz46_1 := blk_frozen BK457.1 1
    have hnb47 := NB442_427.1
    have hnc47 := NB427_442.1
    have hnb48 := NB442_449.1
    have hnc48 := NB449_442.1
    have hcz49_0 : w34.cell? ⟨gb442, 0, none⟩ = some (.slice Ao21 t435.length co21) := (blk_cell BK442.1 0).trans rfl
    have hcz49_1 : w34.cell? ⟨gb442, 1, none⟩ = some (.slice Ao24 t438.length co24) := (blk_cell BK442.1 1).trans rfl
    have hfz49_0 := blk_frozen BK442.1 0
    have hfz49_1 := blk_frozen BK442.1 1
    go_wp2_with (first | ((with_reducible refine gate_callee (f := 19) rfl ?_); refine goesL_ (some 34) rfl rfl Try.func19 (by kernel_rfl) rfl #[.agg #[.slice Ao35 t450.length co35, .slice Ao40 t453.length co40], .agg #[.slice Ao21 t435.length co21, .slice Ao24 t438.length co24]] rfl (by (try simp only [List.map_toArray, List.map_cons, List.map_nil]); first | done | rfl | (simp only [List.length_drop, List.length_take]; rfl)) ?_; (with_reducible refine (laws_eqGloves.calls k _ _ t450 _ _ t453 _ _ t435 _ _ t438 true _ ?side1 ?side2 ?side3 ?side4 ?side5 ?side6 ?side7 ?side8 A41.1).mono ?_); (case side1 => refine (Kd.R_reads' (e := 3) (base := w.heap.size) (ok := fun k_ => ((((((some k_ ≠ (.slice Ao40 t453.length co40 : Value).ownBlock ∧ some k_ ≠ (.slice Ao17 t429.length co17 : Value).ownBlock) ∧ some k_ ≠ (.slice Ao18 t432.length co18 : Value).ownBlock) ∧ some k_ ≠ (.slice Ao21 t435.length co21 : Value).ownBlock) ∧ some k_ ≠ (.slice Ao24 t438.length co24 : Value).ownBlock) ∧ some k_ ≠ (.slice Ao28 t443.length co28 : Value).ownBlock) ∧ some k_ ≠ (.slice Ao32 t446.length co32 : Value).ownBlock)) (n := t450.length) (c := co35) ?_).2.2; exact (by (with_reducible repeat (first | apply Kd.R_alloc | apply Kd.R_drewN | apply Kd.R_drew)); exact (Kd.R_mono (Kd.R_far (p := ⟨gb457, 1, none⟩) (Kd.R_far (p := ⟨gb457, 0, none⟩) (Kd.R_types HO452.1 BK457.1 (by decide)) (fun _ hk => hk.2) (.slice Ao35 t450.length co35)) (fun _ hk => hk.2) (.slice Ao40 t453.length co40)) (fun _ h_ => h_.1)))); (case side2 => exact (Kd.R_reads' HO452.1).2.1); (case side3 => refine (Kd.R_reads' (e := 3) (base := w.heap.size) (ok := fun k_ => ((((((some k_ ≠ (.slice Ao35 t450.length co35 : Value).ownBlock ∧ some k_ ≠ (.slice Ao17 t429.length co17 : Value).ownBlock) ∧ some k_ ≠ (.slice Ao18 t432.length co18 : Value).ownBlock) ∧ some k_ ≠ (.slice Ao21 t435.length co21 : Value).ownBlock) ∧ some k_ ≠ (.slice Ao24 t438.length co24 : Value).ownBlock) ∧ some k_ ≠ (.slice Ao28 t443.length co28 : Value).ownBlock) ∧ some k_ ≠ (.slice Ao32 t446.length co32 : Value).ownBlock)) (n := t453.length) (c := co40) ?_).2.2; exact (by (with_reducible repeat (first | apply Kd.R_alloc | apply Kd.R_drewN | apply Kd.R_drew)); exact (Kd.R_mono (Kd.R_far (p := ⟨gb457, 1, none⟩) (Kd.R_far (p := ⟨gb457, 0, none⟩) (Kd.R_types HO455.1 BK457.1 (by decide)) (fun _ hk => hk.2) (.slice Ao35 t450.length co35)) (fun _ hk => hk.2) (.slice Ao40 t453.length co40)) (fun _ h_ => h_.1)))); (case side4 => exact (Kd.R_reads' HO455.1).2.1); (case side5 => refine (Kd.R_reads' (e := 3) (base := w.heap.size) (ok := fun k_ => ((((((some k_ ≠ (.slice Ao24 t438.length co24 : Value).ownBlock ∧ some k_ ≠ (.slice Ao17 t429.length co17 : Value).ownBlock) ∧ some k_ ≠ (.slice Ao18 t432.length co18 : Value).ownBlock) ∧ some k_ ≠ (.slice Ao28 t443.length co28 : Value).ownBlock) ∧ some k_ ≠ (.slice Ao32 t446.length co32 : Value).ownBlock) ∧ some k_ ≠ (.slice Ao35 t450.length co35 : Value).ownBlock) ∧ some k_ ≠ (.slice Ao40 t453.length co40 : Value).ownBlock)) (n := t435.length) (c := co21) ?_).2.2; exact (by (with_reducible repeat (first | apply Kd.R_alloc | apply Kd.R_drewN | apply Kd.R_drew)); exact (Kd.R_mono (Kd.R_far (p := ⟨gb457, 1, none⟩) (Kd.R_far (p := ⟨gb457, 0, none⟩) (Kd.R_types HO437.1 BK457.1 (by decide)) (fun _ hk => hk.2) (.slice Ao35 t450.length co35)) (fun _ hk => hk.2) (.slice Ao40 t453.length co40)) (fun _ h_ => h_.1)))); (case side6 => exact (Kd.R_reads' HO437.1).2.1); (case side7 => refine (Kd.R_reads' (e := 3) (base := w.heap.size) (ok := fun k_ => ((((((some k_ ≠ (.slice Ao21 t435.length co21 : Value).ownBlock ∧ some k_ ≠ (.slice Ao17 t429.length co17 : Value).ownBlock) ∧ some k_ ≠ (.slice Ao18 t432.length co18 : Value).ownBlock) ∧ some k_ ≠ (.slice Ao28 t443.length co28 : Value).ownBlock) ∧ some k_ ≠ (.slice Ao32 t446.length co32 : Value).ownBlock) ∧ some k_ ≠ (.slice Ao35 t450.length co35 : Value).ownBlock) ∧ some k_ ≠ (.slice Ao40 t453.length co40 : Value).ownBlock)) (n := t438.length) (c := co24) ?_).2.2; exact (by (with_reducible repeat (first | apply Kd.R_alloc | apply Kd.R_drewN | apply Kd.R_drew)); exact (Kd.R_mono (Kd.R_far (p := ⟨gb457, 1, none⟩) (Kd.R_far (p := ⟨gb457, 0, none⟩) (Kd.R_types HO440.1 BK457.1 (by decide)) (fun _ hk => hk.2) (.slice Ao35 t450.length co35)) (fun _ hk => hk.2) (.slice Ao40 t453.length co40)) (fun _ h_ => h_.1)))); (case side8 => exact (Kd.R_reads' HO440.1).2.1); rintro e w50 ⟨rfl, hb⟩; refine ⟨_, rfl, ?_⟩; have n0_ := Aside0.mk (Kd.R_below (by (with_reducible repeat (first | apply Kd.R_alloc | apply Kd.R_drewN | apply Kd.R_drew)); exact (Kd.R_mono (Kd.R_far (p := ⟨gb457, 1, none⟩) (Kd.R_far (p := ⟨gb457, 0, none⟩) (Kd.R_types HO431.1 BK457.1 (by decide)) (fun _ hk => hk.2) (.slice Ao35 t450.length co35)) (fun _ hk => hk.2) (.slice Ao40 t453.length co40)) (fun _ h_ => h_.1))) hb); have n1_ := Aside0.mk (Kd.R_below (by (with_reducible repeat (first | apply Kd.R_alloc | apply Kd.R_drewN | apply Kd.R_drew)); exact (Kd.R_mono (Kd.R_far (p := ⟨gb457, 1, none⟩) (Kd.R_far (p := ⟨gb457, 0, none⟩) (Kd.R_types HO434.1 BK457.1 (by decide)) (fun _ hk => hk.2) (.slice Ao35 t450.length co35)) (fun _ hk => hk.2) (.slice Ao40 t453.length co40)) (fun _ h_ => h_.1))) hb); have n2_ := Aside0.mk (Kd.R_below (by (with_reducible repeat (first | apply Kd.R_alloc | apply Kd.R_drewN | apply Kd.R_drew)); exact (Kd.R_mono (Kd.R_far (p := ⟨gb457, 1, none⟩) (Kd.R_far (p := ⟨gb457, 0, none⟩) (Kd.R_types HO437.1 BK457.1 (by decide)) (fun _ hk => hk.2) (.slice Ao35 t450.length co35)) (fun _ hk => hk.2) (.slice Ao40 t453.length co40)) (fun _ h_ => h_.1))) hb); have n3_ := Aside0.mk (Kd.R_below (by (with_reducible repeat (first | apply Kd.R_alloc | apply Kd.R_drewN | apply Kd.R_drew)); exact (Kd.R_mono (Kd.R_far (p := ⟨gb457, 1, none⟩) (Kd.R_far (p := ⟨gb457, 0, none⟩) (Kd.R_types HO440.1 BK457.1 (by decide)) (fun _ hk => hk.2) (.slice Ao35 t450.length co35)) (fun _ hk => hk.2) (.slice Ao40 t453.length co40)) (fun _ h_ => h_.1))) hb); have n4_ := Aside0.mk (Kd.R_below (by (with_reducible repeat (first | apply Kd.R_alloc | apply Kd.R_drewN | apply Kd.R_drew)); exact (Kd.R_mono (Kd.R_far (p := ⟨gb457, 1, none⟩) (Kd.R_far (p := ⟨gb457, 0, none⟩) (Kd.R_types HO445.1 BK457.1 (by decide)) (fun _ hk => hk.2) (.slice Ao35 t450.length co35)) (fun _ hk => hk.2) (.slice Ao40 t453.length co40)) (fun _ h_ => h_.1))) hb); have n5_ := Aside0.mk (Kd.R_below (by (with_reducible repeat (first | apply Kd.R_alloc | apply Kd.R_drewN | apply Kd.R_drew)); exact (Kd.R_mono (Kd.R_far (p := ⟨gb457, 1, none⟩) (Kd.R_far (p := ⟨gb457, 0, none⟩) (Kd.R_types HO448.1 BK457.1 (by decide)) (fun _ hk => hk.2) (.slice Ao35 t450.length co35)) (fun _ hk => hk.2) (.slice Ao40 t453.length co40)) (fun _ h_ => h_.1))) hb); have n6_ := Aside0.mk (Kd.R_below (by (with_reducible repeat (first | apply Kd.R_alloc | apply Kd.R_drewN | apply Kd.R_drew)); exact (Kd.R_mono (Kd.R_far (p := ⟨gb457, 1, none⟩) (Kd.R_far (p := ⟨gb457, 0, none⟩) (Kd.R_types HO452.1 BK457.1 (by decide)) (fun _ hk => hk.2) (.slice Ao35 t450.length co35)) (fun _ hk => hk.2) (.slice Ao40 t453.length co40)) (fun _ h_ => h_.1))) hb); have n7_ := Aside0.mk (Kd.R_below (by (with_reducible repeat (first | apply Kd.R_alloc | apply Kd.R_drewN | apply Kd.R_drew)); exact (Kd.R_mono (Kd.R_far (p := ⟨gb457, 1, none⟩) (Kd.R_far (p := ⟨gb457, 0, none⟩) (Kd.R_types HO455.1 BK457.1 (by decide)) (fun _ hk => hk.2) (.slice Ao35 t450.length co35)) (fun _ hk => hk.2) (.slice Ao40 t453.length co40)) (fun _ h_ => h_.1))) hb); have n8_ := Aside0.mk (blk_below (g := gb427) (o := .cells #[.slice A0_0 l0_0.length c0_0, .slice A0_1 l0_1.length c0_1] 24 (0, 0)) (by (with_reducible repeat (first | refine blk_drewN ?_ _ | refine blk_drew ?_ | refine blk_alloc ?_ _)); refine blk_far ?_ NB427_457.1 _; (with_reducible repeat (first | refine blk_drewN ?_ _ | refine blk_drew ?_ | refine blk_alloc ?_ _)); refine blk_far ?_ NB427_457.1 _; (with_reducible repeat (first | refine blk_drewN ?_ _ | refine blk_drew ?_ | refine blk_alloc ?_ _)); exact BK427.1) hb); have n9_ := Aside0.mk (blk_below (g := gb442) (o := .cells #[.slice Ao21 t435.length co21, .slice Ao24 t438.length co24] 28 (0, 0)) (by (with_reducible repeat (first | refine blk_drewN ?_ _ | refine blk_drew ?_ | refine blk_alloc ?_ _)); refine blk_far ?_ NB442_457.1 _; (with_reducible repeat (first | refine blk_drewN ?_ _ | refine blk_drew ?_ | refine blk_alloc ?_ _)); refine blk_far ?_ NB442_457.1 _; (with_reducible repeat (first | refine blk_drewN ?_ _ | refine blk_drew ?_ | refine blk_alloc ?_ _)); exact BK442.1) hb); have n10_ := Aside0.mk (blk_below (g := gb449) (o := .cells #[.slice Ao28 t443.length co28, .slice Ao32 t446.length co32] 28 (0, 0)) (by (with_reducible repeat (first | refine blk_drewN ?_ _ | refine blk_drew ?_ | refine blk_alloc ?_ _)); refine blk_far ?_ NB449_457.1 _; (with_reducible repeat (first | refine blk_drewN ?_ _ | refine blk_drew ?_ | refine blk_alloc ?_ _)); refine blk_far ?_ NB449_457.1 _; (with_reducible repeat (first | refine blk_drewN ?_ _ | refine blk_drew ?_ | refine blk_alloc ?_ _)); exact BK449.1) hb); have n11_ := Aside0.mk (blk_below (g := gb457) (o := .cells #[.slice Ao35 t450.length co35, .slice Ao40 t453.length co40] 28 (0, 0)) (by (with_reducible repeat (first | refine blk_drewN ?_ _ | refine blk_drew ?_ | refine blk_alloc ?_ _)); refine blk_put (cs := #[.slice Ao35 t450.length co35, .slice none 0 0]) ?_ 1 _ rfl; (with_reducible repeat (first | refine blk_drewN ?_ _ | refine blk_drew ?_ | refine blk_alloc ?_ _)); refine blk_put (cs := #[.slice none 0 0, .slice none 0 0]) ?_ 0 _ rfl; (with_reducible repeat (first | refine blk_drewN ?_ _ | refine blk_drew ?_ | refine blk_alloc ?_ _)); exact BK457.1) hb); have n12_ := Aside0.mk (below_step (by repeat (first | (with_reducible first | exact HB.1 | apply below_alloc | apply pw_below_drewN | apply below_drew1 | refine below_set ?_ GE427.1 | refine below_set ?_ GE442.1 | refine below_set ?_ GE449.1 | refine below_set ?_ GE457.1) | exact HB.1)) hb); clear HO431; clear HO434; clear HO437; clear HO440; clear HO445; clear HO448; clear HO452; clear HO455; clear BK427; clear BK442; clear BK449; clear BK457; clear HB; have HO431 := n0_; have HO434 := n1_; have HO437 := n2_; have HO440 := n3_; have HO445 := n4_; have HO448 := n5_; have HO452 := n6_; have HO455 := n7_; have BK427 := n8_; have BK442 := n9_; have BK449 := n10_; have BK457 := n11_; have HB := n12_; clear n0_ n1_ n2_ n3_ n4_ n5_ n6_ n7_ n8_ n9_ n10_ n11_ n12_; (try clear hb); (try clear hb2); (try clear hk); (try clear hi)))
    go_meet
    case rel => exact ⟨_, ((t456 != t441)), (by first | rfl | (simp; done) | (simp [*]; done) | (simp [Go.IntWalk.i64_left]; done)), H', ⟨by first | omega | exact Nat.le_refl _⟩, ⟨by (with_reducible repeat (first | apply Kd.R_alloc | apply Kd.R_drewN | apply Kd.R_drew)); exact Kd.R_mono HO437.1 (fun _ hk => ⟨hk.1.1.1.1.1.1, ⟨hk.1.1.1.2, ⟨hk.1.1.2, ⟨hk.1.2, hk.2⟩⟩⟩⟩)⟩, ⟨by (with_reducible repeat (first | apply Kd.R_alloc | apply Kd.R_drewN | apply Kd.R_drew)); exact Kd.R_mono HO440.1 (fun _ hk => ⟨hk.1.1.1.1.1.1, ⟨hk.1.1.1.2, ⟨hk.1.1.2, ⟨hk.1.2, hk.2⟩⟩⟩⟩)⟩, ⟨by (with_reducible repeat (first | apply Kd.R_alloc | apply Kd.R_drewN | apply Kd.R_drew)); exact Kd.R_mono HO445.1 (fun _ hk => ⟨hk.1.1.1.2, ⟨hk.1.1.2, ⟨hk.1.1.1.1.1.1, ⟨hk.1.2, hk.2⟩⟩⟩⟩)⟩, ⟨by (with_reducible repeat (first | apply Kd.R_alloc | apply Kd.R_drewN | apply Kd.R_drew)); exact Kd.R_mono HO448.1 (fun _ hk => ⟨hk.1.1.1.2, ⟨hk.1.1.2, ⟨hk.1.1.1.1.1.1, ⟨hk.1.2, hk.2⟩⟩⟩⟩)⟩, ⟨by (with_reducible repeat (first | apply Kd.R_alloc | apply Kd.R_drewN | apply Kd.R_drew)); exact Kd.R_mono HO452.1 (fun _ hk => ⟨hk.1.1.1.2, ⟨hk.1.1.2, ⟨hk.1.2, ⟨hk.2, hk.1.1.1.1.1.1⟩⟩⟩⟩)⟩, ⟨by (with_reducible repeat (first | apply Kd.R_alloc | apply Kd.R_drewN | apply Kd.R_drew)); exact Kd.R_mono HO455.1 (fun _ hk => ⟨hk.1.1.1.2, ⟨hk.1.1.2, ⟨hk.1.2, ⟨hk.2, hk.1.1.1.1.1.1⟩⟩⟩⟩)⟩, ⟨by (with_reducible repeat (first | refine blk_drewN ?_ _ | refine blk_drew ?_ | refine blk_alloc ?_ _)); exact BK427.1⟩, ⟨by (with_reducible repeat (first | refine blk_drewN ?_ _ | refine blk_drew ?_ | refine blk_alloc ?_ _)); exact BK442.1⟩, ⟨by (with_reducible repeat (first | refine blk_drewN ?_ _ | refine blk_drew ?_ | refine blk_alloc ?_ _)); exact BK449.1⟩, ⟨by (with_reducible repeat (first | refine blk_drewN ?_ _ | refine blk_drew ?_ | refine blk_alloc ?_ _)); exact BK457.1⟩, ⟨by repeat (first | (with_reducible first | exact HB.1 | apply below_alloc | apply pw_below_drewN | apply below_drew1 | refine below_set ?_ GE427.1 | refine below_set ?_ GE442.1 | refine below_set ?_ GE449.1 | refine below_set ?_ GE457.1) | exact HB.1)⟩⟩
   ·replace c42 := Bool.eq_false_iff.mpr c42
    subst c42
    have H1 : (laws_FnExactLooseGloves.j0 k t441 t456 true l0_0 l0_1 t435 t438 t443 t446 t450 t453) = some r := by rw [if_neg (show ¬ (false = true) by decide)] at H; exact H
    clear H
    have H := H1
    clear H1
    have H' := Aside0.mk H
    clear H
    have hnb51 := NB457_427.1
    have hnc51 := NB427_457.1
    have hnb52 := NB457_442.1
    have hnc52 := NB442_457.1
    have hnb53 := NB457_449.1
    have hnc53 := NB449_457.1
    have hcz54_0 : w34.cell? ⟨gb457, 0, none⟩ = some (.slice none 0 0) := (blk_cell BK457.1 0).trans rfl
    have hcz54_1 : w34.cell? ⟨gb457, 1, none⟩ = some (.slice none 0 0) := (blk_cell BK457.1 1).trans rfl
    have hfz54_0 := blk_frozen BK457.1 0
    have hfz54_1 := blk_frozen BK457.1 1
    have hnb55 := NB442_427.1
    have hnc55 := NB427_442.1
    have hnb56 := NB442_449.1
    have hnc56 := NB449_442.1
    have hcz57_0 : w34.cell? ⟨gb442, 0, none⟩ = some (.slice Ao21 t435.length co21) := (blk_cell BK442.1 0).trans rfl
    have hcz57_1 : w34.cell? ⟨gb442, 1, none⟩ = some (.slice Ao24 t438.length co24) := (blk_cell BK442.1 1).trans rfl
    have hfz57_0 := blk_frozen BK442.1 0
    have hfz57_1 := blk_frozen BK442.1 1
    go_wp2_with (first | ((with_reducible refine gate_callee (f := 19) rfl ?_); refine goesL_ (some 34) rfl rfl Try.func19 (by kernel_rfl) rfl #[.agg #[.slice Ao35 t450.length co35, .slice Ao40 t453.length co40], .agg #[.slice Ao21 t435.length co21, .slice Ao24 t438.length co24]] rfl (by (try simp only [List.map_toArray, List.map_cons, List.map_nil]); first | done | rfl | (simp only [List.length_drop, List.length_take]; rfl)) ?_; (with_reducible refine (laws_eqGloves.calls k _ _ t450 _ _ t453 _ _ t435 _ _ t438 false _ ?side1 ?side2 ?side3 ?side4 ?side5 ?side6 ?side7 ?side8 A41.1).mono ?_); (case side1 => refine (Kd.R_reads' (e := 3) (base := w.heap.size) (ok := fun k_ => ((((((some k_ ≠ (.slice Ao40 t453.length co40 : Value).ownBlock ∧ some k_ ≠ (.slice Ao17 t429.length co17 : Value).ownBlock) ∧ some k_ ≠ (.slice Ao18 t432.length co18 : Value).ownBlock) ∧ some k_ ≠ (.slice Ao21 t435.length co21 : Value).ownBlock) ∧ some k_ ≠ (.slice Ao24 t438.length co24 : Value).ownBlock) ∧ some k_ ≠ (.slice Ao28 t443.length co28 : Value).ownBlock) ∧ some k_ ≠ (.slice Ao32 t446.length co32 : Value).ownBlock)) (n := t450.length) (c := co35) ?_).2.2; exact (by (with_reducible repeat (first | apply Kd.R_alloc | apply Kd.R_drewN | apply Kd.R_drew)); exact (Kd.R_mono (Kd.R_far (p := ⟨gb457, 1, none⟩) (Kd.R_far (p := ⟨gb457, 0, none⟩) (Kd.R_types HO452.1 BK457.1 (by decide)) (fun _ hk => hk.2) (.slice Ao35 t450.length co35)) (fun _ hk => hk.2) (.slice Ao40 t453.length co40)) (fun _ h_ => h_.1)))); (case side2 => exact (Kd.R_reads' HO452.1).2.1); (case side3 => refine (Kd.R_reads' (e := 3) (base := w.heap.size) (ok := fun k_ => ((((((some k_ ≠ (.slice Ao35 t450.length co35 : Value).ownBlock ∧ some k_ ≠ (.slice Ao17 t429.length co17 : Value).ownBlock) ∧ some k_ ≠ (.slice Ao18 t432.length co18 : Value).ownBlock) ∧ some k_ ≠ (.slice Ao21 t435.length co21 : Value).ownBlock) ∧ some k_ ≠ (.slice Ao24 t438.length co24 : Value).ownBlock) ∧ some k_ ≠ (.slice Ao28 t443.length co28 : Value).ownBlock) ∧ some k_ ≠ (.slice Ao32 t446.length co32 : Value).ownBlock)) (n := t453.length) (c := co40) ?_).2.2; exact (by (with_reducible repeat (first | apply Kd.R_alloc | apply Kd.R_drewN | apply Kd.R_drew)); exact (Kd.R_mono (Kd.R_far (p := ⟨gb457, 1, none⟩) (Kd.R_far (p := ⟨gb457, 0, none⟩) (Kd.R_types HO455.1 BK457.1 (by decide)) (fun _ hk => hk.2) (.slice Ao35 t450.length co35)) (fun _ hk => hk.2) (.slice Ao40 t453.length co40)) (fun _ h_ => h_.1)))); (case side4 => exact (Kd.R_reads' HO455.1).2.1); (case side5 => refine (Kd.R_reads' (e := 3) (base := w.heap.size) (ok := fun k_ => ((((((some k_ ≠ (.slice Ao24 t438.length co24 : Value).ownBlock ∧ some k_ ≠ (.slice Ao17 t429.length co17 : Value).ownBlock) ∧ some k_ ≠ (.slice Ao18 t432.length co18 : Value).ownBlock) ∧ some k_ ≠ (.slice Ao28 t443.length co28 : Value).ownBlock) ∧ some k_ ≠ (.slice Ao32 t446.length co32 : Value).ownBlock) ∧ some k_ ≠ (.slice Ao35 t450.length co35 : Value).ownBlock) ∧ some k_ ≠ (.slice Ao40 t453.length co40 : Value).ownBlock)) (n := t435.length) (c := co21) ?_).2.2; exact (by (with_reducible repeat (first | apply Kd.R_alloc | apply Kd.R_drewN | apply Kd.R_drew)); exact (Kd.R_mono (Kd.R_far (p := ⟨gb457, 1, none⟩) (Kd.R_far (p := ⟨gb457, 0, none⟩) (Kd.R_types HO437.1 BK457.1 (by decide)) (fun _ hk => hk.2) (.slice Ao35 t450.length co35)) (fun _ hk => hk.2) (.slice Ao40 t453.length co40)) (fun _ h_ => h_.1)))); (case side6 => exact (Kd.R_reads' HO437.1).2.1); (case side7 => refine (Kd.R_reads' (e := 3) (base := w.heap.size) (ok := fun k_ => ((((((some k_ ≠ (.slice Ao21 t435.length co21 : Value).ownBlock ∧ some k_ ≠ (.slice Ao17 t429.length co17 : Value).ownBlock) ∧ some k_ ≠ (.slice Ao18 t432.length co18 : Value).ownBlock) ∧ some k_ ≠ (.slice Ao28 t443.length co28 : Value).ownBlock) ∧ some k_ ≠ (.slice Ao32 t446.length co32 : Value).ownBlock) ∧ some k_ ≠ (.slice Ao35 t450.length co35 : Value).ownBlock) ∧ some k_ ≠ (.slice Ao40 t453.length co40 : Value).ownBlock)) (n := t438.length) (c := co24) ?_).2.2; exact (by (with_reducible repeat (first | apply Kd.R_alloc | apply Kd.R_drewN | apply Kd.R_drew)); exact (Kd.R_mono (Kd.R_far (p := ⟨gb457, 1, none⟩) (Kd.R_far (p := ⟨gb457, 0, none⟩) (Kd.R_types HO440.1 BK457.1 (by decide)) (fun _ hk => hk.2) (.slice Ao35 t450.length co35)) (fun _ hk => hk.2) (.slice Ao40 t453.length co40)) (fun _ h_ => h_.1)))); (case side8 => exact (Kd.R_reads' HO440.1).2.1); rintro e w58 ⟨rfl, hb⟩; refine ⟨_, rfl, ?_⟩; have n0_ := Aside0.mk (Kd.R_below (by (with_reducible repeat (first | apply Kd.R_alloc | apply Kd.R_drewN | apply Kd.R_drew)); exact (Kd.R_mono (Kd.R_far (p := ⟨gb457, 1, none⟩) (Kd.R_far (p := ⟨gb457, 0, none⟩) (Kd.R_types HO431.1 BK457.1 (by decide)) (fun _ hk => hk.2) (.slice Ao35 t450.length co35)) (fun _ hk => hk.2) (.slice Ao40 t453.length co40)) (fun _ h_ => h_.1))) hb); have n1_ := Aside0.mk (Kd.R_below (by (with_reducible repeat (first | apply Kd.R_alloc | apply Kd.R_drewN | apply Kd.R_drew)); exact (Kd.R_mono (Kd.R_far (p := ⟨gb457, 1, none⟩) (Kd.R_far (p := ⟨gb457, 0, none⟩) (Kd.R_types HO434.1 BK457.1 (by decide)) (fun _ hk => hk.2) (.slice Ao35 t450.length co35)) (fun _ hk => hk.2) (.slice Ao40 t453.length co40)) (fun _ h_ => h_.1))) hb); have n2_ := Aside0.mk (Kd.R_below (by (with_reducible repeat (first | apply Kd.R_alloc | apply Kd.R_drewN | apply Kd.R_drew)); exact (Kd.R_mono (Kd.R_far (p := ⟨gb457, 1, none⟩) (Kd.R_far (p := ⟨gb457, 0, none⟩) (Kd.R_types HO437.1 BK457.1 (by decide)) (fun _ hk => hk.2) (.slice Ao35 t450.length co35)) (fun _ hk => hk.2) (.slice Ao40 t453.length co40)) (fun _ h_ => h_.1))) hb); have n3_ := Aside0.mk (Kd.R_below (by (with_reducible repeat (first | apply Kd.R_alloc | apply Kd.R_drewN | apply Kd.R_drew)); exact (Kd.R_mono (Kd.R_far (p := ⟨gb457, 1, none⟩) (Kd.R_far (p := ⟨gb457, 0, none⟩) (Kd.R_types HO440.1 BK457.1 (by decide)) (fun _ hk => hk.2) (.slice Ao35 t450.length co35)) (fun _ hk => hk.2) (.slice Ao40 t453.length co40)) (fun _ h_ => h_.1))) hb); have n4_ := Aside0.mk (Kd.R_below (by (with_reducible repeat (first | apply Kd.R_alloc | apply Kd.R_drewN | apply Kd.R_drew)); exact (Kd.R_mono (Kd.R_far (p := ⟨gb457, 1, none⟩) (Kd.R_far (p := ⟨gb457, 0, none⟩) (Kd.R_types HO445.1 BK457.1 (by decide)) (fun _ hk => hk.2) (.slice Ao35 t450.length co35)) (fun _ hk => hk.2) (.slice Ao40 t453.length co40)) (fun _ h_ => h_.1))) hb); have n5_ := Aside0.mk (Kd.R_below (by (with_reducible repeat (first | apply Kd.R_alloc | apply Kd.R_drewN | apply Kd.R_drew)); exact (Kd.R_mono (Kd.R_far (p := ⟨gb457, 1, none⟩) (Kd.R_far (p := ⟨gb457, 0, none⟩) (Kd.R_types HO448.1 BK457.1 (by decide)) (fun _ hk => hk.2) (.slice Ao35 t450.length co35)) (fun _ hk => hk.2) (.slice Ao40 t453.length co40)) (fun _ h_ => h_.1))) hb); have n6_ := Aside0.mk (Kd.R_below (by (with_reducible repeat (first | apply Kd.R_alloc | apply Kd.R_drewN | apply Kd.R_drew)); exact (Kd.R_mono (Kd.R_far (p := ⟨gb457, 1, none⟩) (Kd.R_far (p := ⟨gb457, 0, none⟩) (Kd.R_types HO452.1 BK457.1 (by decide)) (fun _ hk => hk.2) (.slice Ao35 t450.length co35)) (fun _ hk => hk.2) (.slice Ao40 t453.length co40)) (fun _ h_ => h_.1))) hb); have n7_ := Aside0.mk (Kd.R_below (by (with_reducible repeat (first | apply Kd.R_alloc | apply Kd.R_drewN | apply Kd.R_drew)); exact (Kd.R_mono (Kd.R_far (p := ⟨gb457, 1, none⟩) (Kd.R_far (p := ⟨gb457, 0, none⟩) (Kd.R_types HO455.1 BK457.1 (by decide)) (fun _ hk => hk.2) (.slice Ao35 t450.length co35)) (fun _ hk => hk.2) (.slice Ao40 t453.length co40)) (fun _ h_ => h_.1))) hb); have n8_ := Aside0.mk (blk_below (g := gb427) (o := .cells #[.slice A0_0 l0_0.length c0_0, .slice A0_1 l0_1.length c0_1] 24 (0, 0)) (by (with_reducible repeat (first | refine blk_drewN ?_ _ | refine blk_drew ?_ | refine blk_alloc ?_ _)); refine blk_far ?_ NB427_457.1 _; (with_reducible repeat (first | refine blk_drewN ?_ _ | refine blk_drew ?_ | refine blk_alloc ?_ _)); refine blk_far ?_ NB427_457.1 _; (with_reducible repeat (first | refine blk_drewN ?_ _ | refine blk_drew ?_ | refine blk_alloc ?_ _)); exact BK427.1) hb); have n9_ := Aside0.mk (blk_below (g := gb442) (o := .cells #[.slice Ao21 t435.length co21, .slice Ao24 t438.length co24] 28 (0, 0)) (by (with_reducible repeat (first | refine blk_drewN ?_ _ | refine blk_drew ?_ | refine blk_alloc ?_ _)); refine blk_far ?_ NB442_457.1 _; (with_reducible repeat (first | refine blk_drewN ?_ _ | refine blk_drew ?_ | refine blk_alloc ?_ _)); refine blk_far ?_ NB442_457.1 _; (with_reducible repeat (first | refine blk_drewN ?_ _ | refine blk_drew ?_ | refine blk_alloc ?_ _)); exact BK442.1) hb); have n10_ := Aside0.mk (blk_below (g := gb449) (o := .cells #[.slice Ao28 t443.length co28, .slice Ao32 t446.length co32] 28 (0, 0)) (by (with_reducible repeat (first | refine blk_drewN ?_ _ | refine blk_drew ?_ | refine blk_alloc ?_ _)); refine blk_far ?_ NB449_457.1 _; (with_reducible repeat (first | refine blk_drewN ?_ _ | refine blk_drew ?_ | refine blk_alloc ?_ _)); refine blk_far ?_ NB449_457.1 _; (with_reducible repeat (first | refine blk_drewN ?_ _ | refine blk_drew ?_ | refine blk_alloc ?_ _)); exact BK449.1) hb); have n11_ := Aside0.mk (blk_below (g := gb457) (o := .cells #[.slice Ao35 t450.length co35, .slice Ao40 t453.length co40] 28 (0, 0)) (by (with_reducible repeat (first | refine blk_drewN ?_ _ | refine blk_drew ?_ | refine blk_alloc ?_ _)); refine blk_put (cs := #[.slice Ao35 t450.length co35, .slice none 0 0]) ?_ 1 _ rfl; (with_reducible repeat (first | refine blk_drewN ?_ _ | refine blk_drew ?_ | refine blk_alloc ?_ _)); refine blk_put (cs := #[.slice none 0 0, .slice none 0 0]) ?_ 0 _ rfl; (with_reducible repeat (first | refine blk_drewN ?_ _ | refine blk_drew ?_ | refine blk_alloc ?_ _)); exact BK457.1) hb); have n12_ := Aside0.mk (below_step (by repeat (first | (with_reducible first | exact HB.1 | apply below_alloc | apply pw_below_drewN | apply below_drew1 | refine below_set ?_ GE427.1 | refine below_set ?_ GE442.1 | refine below_set ?_ GE449.1 | refine below_set ?_ GE457.1) | exact HB.1)) hb); clear HO431; clear HO434; clear HO437; clear HO440; clear HO445; clear HO448; clear HO452; clear HO455; clear BK427; clear BK442; clear BK449; clear BK457; clear HB; have HO431 := n0_; have HO434 := n1_; have HO437 := n2_; have HO440 := n3_; have HO445 := n4_; have HO448 := n5_; have HO452 := n6_; have HO455 := n7_; have BK427 := n8_; have BK442 := n9_; have BK449 := n10_; have BK457 := n11_; have HB := n12_; clear n0_ n1_ n2_ n3_ n4_ n5_ n6_ n7_ n8_ n9_ n10_ n11_ n12_; (try clear hb); (try clear hb2); (try clear hk); (try clear hi)))
    go_meet
    case rel => exact ⟨_, (true), (by first | rfl | (simp; done) | (simp [*]; done) | (simp [Go.IntWalk.i64_left]; done)), H', ⟨by first | omega | exact Nat.le_refl _⟩, ⟨by (with_reducible repeat (first | apply Kd.R_alloc | apply Kd.R_drewN | apply Kd.R_drew)); exact Kd.R_mono HO437.1 (fun _ hk => ⟨hk.1.1.1.1.1.1, ⟨hk.1.1.1.2, ⟨hk.1.1.2, ⟨hk.1.2, hk.2⟩⟩⟩⟩)⟩, ⟨by (with_reducible repeat (first | apply Kd.R_alloc | apply Kd.R_drewN | apply Kd.R_drew)); exact Kd.R_mono HO440.1 (fun _ hk => ⟨hk.1.1.1.1.1.1, ⟨hk.1.1.1.2, ⟨hk.1.1.2, ⟨hk.1.2, hk.2⟩⟩⟩⟩)⟩, ⟨by (with_reducible repeat (first | apply Kd.R_alloc | apply Kd.R_drewN | apply Kd.R_drew)); exact Kd.R_mono HO445.1 (fun _ hk => ⟨hk.1.1.1.2, ⟨hk.1.1.2, ⟨hk.1.1.1.1.1.1, ⟨hk.1.2, hk.2⟩⟩⟩⟩)⟩, ⟨by (with_reducible repeat (first | apply Kd.R_alloc | apply Kd.R_drewN | apply Kd.R_drew)); exact Kd.R_mono HO448.1 (fun _ hk => ⟨hk.1.1.1.2, ⟨hk.1.1.2, ⟨hk.1.1.1.1.1.1, ⟨hk.1.2, hk.2⟩⟩⟩⟩)⟩, ⟨by (with_reducible repeat (first | apply Kd.R_alloc | apply Kd.R_drewN | apply Kd.R_drew)); exact Kd.R_mono HO452.1 (fun _ hk => ⟨hk.1.1.1.2, ⟨hk.1.1.2, ⟨hk.1.2, ⟨hk.2, hk.1.1.1.1.1.1⟩⟩⟩⟩)⟩, ⟨by (with_reducible repeat (first | apply Kd.R_alloc | apply Kd.R_drewN | apply Kd.R_drew)); exact Kd.R_mono HO455.1 (fun _ hk => ⟨hk.1.1.1.2, ⟨hk.1.1.2, ⟨hk.1.2, ⟨hk.2, hk.1.1.1.1.1.1⟩⟩⟩⟩)⟩, ⟨by (with_reducible repeat (first | refine blk_drewN ?_ _ | refine blk_drew ?_ | refine blk_alloc ?_ _)); exact BK427.1⟩, ⟨by (with_reducible repeat (first | refine blk_drewN ?_ _ | refine blk_drew ?_ | refine blk_alloc ?_ _)); exact BK442.1⟩, ⟨by (with_reducible repeat (first | refine blk_drewN ?_ _ | refine blk_drew ?_ | refine blk_alloc ?_ _)); exact BK449.1⟩, ⟨by (with_reducible repeat (first | refine blk_drewN ?_ _ | refine blk_drew ?_ | refine blk_alloc ?_ _)); exact BK457.1⟩, ⟨by repeat (first | (with_reducible first | exact HB.1 | apply below_alloc | apply pw_below_drewN | apply below_drew1 | refine below_set ?_ GE427.1 | refine below_set ?_ GE442.1 | refine below_set ?_ GE449.1 | refine below_set ?_ GE457.1) | exact HB.1)⟩⟩
  case rest =>
   clear HC11
   try clear c1
   try clear c2
   try clear p2
   try clear c3
   try clear c3b0
   try clear c4
   try clear c5
   try clear c12
   try clear c15
   try clear c17
   try clear c19
   try clear c22
   try clear c29
   try clear c30
   try clear c36
   try clear c37
   try clear c38
   try clear c39
   try clear c42
   try clear c43
   try clear c44
   try clear c45
   try clear c47
   try clear c48
   try clear c51
   try clear c52
   try clear c53
   try clear c55
   try clear c56
   try clear hcz13_0
   try clear hcz13_1
   try clear hcz15_0
   try clear hcz15_1
   try clear hcz23_0
   try clear hcz23_1
   try clear hcz25_0
   try clear hcz25_1
   try clear hcz31_0
   try clear hcz31_1
   try clear hcz39_0
   try clear hcz39_1
   try clear hcz46_0
   try clear hcz46_1
   try clear hcz49_0
   try clear hcz49_1
   try clear hcz54_0
   try clear hcz54_1
   try clear hcz57_0
   try clear hcz57_1
   try clear hcz5_0
   try clear hcz5_1
   try clear hfz13_0
   try clear hfz13_1
   try clear hfz15_0
   try clear hfz15_1
   try clear hfz23_0
   try clear hfz23_1
   try clear hfz25_0
   try clear hfz25_1
   try clear hfz31_0
   try clear hfz31_1
   try clear hfz39_0
   try clear hfz39_1
   try clear hfz46_0
   try clear hfz46_1
   try clear hfz49_0
   try clear hfz49_1
   try clear hfz54_0
   try clear hfz54_1
   try clear hfz57_0
   try clear hfz57_1
   try clear hfz5_0
   try clear hfz5_1
   obtain ⟨kq, x40_10, rfl, HA, HJ10, Q443_0, Q443_1, Q450_0, Q450_1, Q458_0, Q458_1, BK427, BK442, BK449, BK457, HB⟩ := hcut
   cases kq with
   | zero => exact absurd HA.1 (by simp [laws_FnExactLooseGloves.j0])
   | succ kj10 =>
    have H := HA.1
    clear HA
    simp only [laws_FnExactLooseGloves.j0] at H
    by_cases c59 : x40_10 = true
    ·subst c59
     have H1 : (some false) = some r := by rw [if_pos rfl] at H; exact H
     clear H
     have H := H1
     clear H1
     obtain rfl := Option.some.inj H
     go_wp2
     go_ret
     exact ⟨by first | rfl | (simp [errW_none, errW_some] <;> rfl) | (simp [Go.IntWalk.i64_left]; done) | (simp [*, errW_none, errW_some] <;> rfl), by repeat (first | (with_reducible first | exact HB.1 | apply below_alloc | apply pw_below_drewN | apply below_drew1 | refine below_set ?_ GE427.1 | refine below_set ?_ GE442.1 | refine below_set ?_ GE449.1 | refine below_set ?_ GE457.1) | exact HB.1)⟩
    ·replace c59 := Bool.eq_false_iff.mpr c59
     subst c59
     have H1 : ((laws_toGloves.f kj10 l0_0 l0_1).bind fun bt459 => ((laws_eqGloves.f kj10 t443 t446 bt459.1 bt459.2).bind fun t465 => (if t465 = true then ((laws_markGloves.f kj10 t443 t446 1).bind fun bt466 => (if bt466.1 < 0 then (laws_FnExactLooseGloves.j1 kj10 t441 true l0_0 l0_1 t435 t438 t450 t453) else ((laws_eqGloves.f kj10 t450 t453 t435 t438).bind fun t469 => (if t469 = true then (laws_FnExactLooseGloves.j1 kj10 t441 (t456 != t441) l0_0 l0_1 t435 t438 t450 t453) else (laws_FnExactLooseGloves.j1 kj10 t441 true l0_0 l0_1 t435 t438 t450 t453))))) else (some false)))) = some r := by rw [if_neg (show ¬ (false = true) by decide)] at H; exact H
     clear H
     have H := H1
     clear H1
     replace H := Option.bind_eq_some_iff.mp H
     obtain ⟨⟨t459, t462⟩, A600, H⟩ := H
     replace H : ((laws_eqGloves.f kj10 t443 t446 t459 t462).bind fun t465 => (if t465 = true then ((laws_markGloves.f kj10 t443 t446 1).bind fun bt466 => (if bt466.1 < 0 then (laws_FnExactLooseGloves.j1 kj10 t441 true l0_0 l0_1 t435 t438 t450 t453) else ((laws_eqGloves.f kj10 t450 t453 t435 t438).bind fun t469 => (if t469 = true then (laws_FnExactLooseGloves.j1 kj10 t441 (t456 != t441) l0_0 l0_1 t435 t438 t450 t453) else (laws_FnExactLooseGloves.j1 kj10 t441 true l0_0 l0_1 t435 t438 t450 t453))))) else (some false))) = some r := H
     have A60 := Aside0.mk A600
     clear A600
     replace H := Option.bind_eq_some_iff.mp H
     obtain ⟨t465, A610, H⟩ := H
     replace H : (if t465 = true then ((laws_markGloves.f kj10 t443 t446 1).bind fun bt466 => (if bt466.1 < 0 then (laws_FnExactLooseGloves.j1 kj10 t441 true l0_0 l0_1 t435 t438 t450 t453) else ((laws_eqGloves.f kj10 t450 t453 t435 t438).bind fun t469 => (if t469 = true then (laws_FnExactLooseGloves.j1 kj10 t441 (t456 != t441) l0_0 l0_1 t435 t438 t450 t453) else (laws_FnExactLooseGloves.j1 kj10 t441 true l0_0 l0_1 t435 t438 t450 t453))))) else (some false)) = some r := H
     have A61 := Aside0.mk A610
     clear A610
     by_cases c62 : t465 = true
     ·subst c62
      have H1 : ((laws_markGloves.f kj10 t443 t446 1).bind fun bt466 => (if bt466.1 < 0 then (laws_FnExactLooseGloves.j1 kj10 t441 true l0_0 l0_1 t435 t438 t450 t453) else ((laws_eqGloves.f kj10 t450 t453 t435 t438).bind fun t469 => (if t469 = true then (laws_FnExactLooseGloves.j1 kj10 t441 (t456 != t441) l0_0 l0_1 t435 t438 t450 t453) else (laws_FnExactLooseGloves.j1 kj10 t441 true l0_0 l0_1 t435 t438 t450 t453))))) = some r := by rw [if_pos rfl] at H; exact H
      clear H
      have H := H1
      clear H1
      replace H := Option.bind_eq_some_iff.mp H
      obtain ⟨⟨t466, t467, t468⟩, A630, H⟩ := H
      replace H : (if t466 < 0 then (laws_FnExactLooseGloves.j1 kj10 t441 true l0_0 l0_1 t435 t438 t450 t453) else ((laws_eqGloves.f kj10 t450 t453 t435 t438).bind fun t469 => (if t469 = true then (laws_FnExactLooseGloves.j1 kj10 t441 (t456 != t441) l0_0 l0_1 t435 t438 t450 t453) else (laws_FnExactLooseGloves.j1 kj10 t441 true l0_0 l0_1 t435 t438 t450 t453)))) = some r := H
      have A63 := Aside0.mk A630
      clear A630
      have HC64 := Aside0.mk H
      clear H
      try go_wp2
      have n0_ := Aside0.mk (Kd.R_drew Q443_0.1)
      have n1_ := Aside0.mk (Kd.R_drew Q443_1.1)
      have n2_ := Aside0.mk (Kd.R_drew Q450_0.1)
      have n3_ := Aside0.mk (Kd.R_drew Q450_1.1)
      have n4_ := Aside0.mk (Kd.R_drew Q458_0.1)
      have n5_ := Aside0.mk (Kd.R_drew Q458_1.1)
      have n6_ := Aside0.mk (blk_drew BK427.1)
      have n7_ := Aside0.mk (blk_drew BK442.1)
      have n8_ := Aside0.mk (blk_drew BK449.1)
      have n9_ := Aside0.mk (blk_drew BK457.1)
      have n10_ := Aside0.mk (below_drew1 HB.1)
      clear Q443_0
      clear Q443_1
      clear Q450_0
      clear Q450_1
      clear Q458_0
      clear Q458_1
      clear BK427
      clear BK442
      clear BK449
      clear BK457
      clear HB
      have Q443_0 := n0_
      have Q443_1 := n1_
      have Q450_0 := n2_
      have Q450_1 := n3_
      have Q458_0 := n4_
      have Q458_1 := n5_
      have BK427 := n6_
      have BK442 := n7_
      have BK449 := n8_
      have BK457 := n9_
      have HB := n10_
      clear n0_ n1_ n2_ n3_ n4_ n5_ n6_ n7_ n8_ n9_ n10_
      refine start_ (n := 5) (S := fun w' => w'.cell? ⟨gb449, 0, none⟩ = some (.slice Ao28 t443.length co28) ∧ w'.cell? ⟨gb449, 1, none⟩ = some (.slice Ao32 t446.length co32) ∧ w'.cell? ⟨gb427, 0, none⟩ = some (.slice A0_0 l0_0.length c0_0) ∧ w'.cell? ⟨gb427, 1, none⟩ = some (.slice A0_1 l0_1.length c0_1)) (ds := []) #[false, false, false, false, false] (by kernel_rfl) rfl rfl ⟨(blk_cell BK449.1 0).trans rfl, (blk_cell BK449.1 1).trans rfl, (blk_cell BK427.1 0).trans rfl, (blk_cell BK427.1 1).trans rfl⟩ (fun hHeld => ?_)
      generalize wc.drew = w65 at Q443_0 Q443_1 Q450_0 Q450_1 Q458_0 Q458_1 BK427 BK442 BK449 BK457 HB hHeld ⊢
      refine take_ (i := 0) (N := some 41) (v := ?_) (a' := ?_) #[true, false, false, false, false] rfl rfl (by kernel_rfl) (fun _ _ _ h => h) (Or.inl ⟨by rfl, ?_⟩) hHeld ?_ ?_
      rotate_left
      ·rintro w' ⟨s0, s1, s2, s3⟩
       go_simp
       with_reducible rfl
      rotate_left
      ·simp only [Act.put, List.setIfInBounds_toArray, List.set_cons_zero, List.set_cons_succ, i64_w, i32_w]
       rfl
      refine take_ (i := 1) (N := some 42) (v := ?_) (a' := ?_) #[true, true, false, false, false] rfl rfl (by kernel_rfl) (fun _ _ _ h => h) (Or.inl ⟨by rfl, ?_⟩) hHeld ?_ ?_
      rotate_left
      ·rintro w' ⟨s0, s1, s2, s3⟩
       go_simp
       with_reducible rfl
      rotate_left
      ·simp only [Act.put, List.setIfInBounds_toArray, List.set_cons_zero, List.set_cons_succ, i64_w, i32_w]
       rfl
      refine one_ (i := 2) (N := some 43) #[true, true, true, false, false] rfl rfl (by kernel_rfl) (by decide) (fun K hK => ?_)
      refine goes_ Try.func17 (by kernel_rfl) rfl #[.agg #[.slice A0_0 l0_0.length c0_0, .slice A0_1 l0_1.length c0_1]] (by rfl) rfl rfl (by (try simp only [List.map_toArray, List.map_cons, List.map_nil]); first | done | rfl | (simp only [List.length_drop, List.length_take]; rfl)) ?_
      with_reducible refine (laws_toGloves.calls kj10 _ _ l0_0 _ _ l0_1 t459 t462 _ ?side1 ?side2 ?side3 ?side4 A60.1).mono ?_
      (case side1 => repeat (first | exact (Kd.C_below HR0_0.1 HB.1) | (with_reducible refine Kd.C_alloc ?_ _) | (with_reducible refine Kd.C_drewN ?_ _) | (with_reducible refine Kd.C_drew ?_)))
      (case side2 => exact HC0_0.1)
      (case side3 => repeat (first | exact (Kd.C_below HR0_1.1 HB.1) | (with_reducible refine Kd.C_alloc ?_ _) | (with_reducible refine Kd.C_drewN ?_ _) | (with_reducible refine Kd.C_drew ?_)))
      (case side4 => exact HC0_1.1)
      rintro e w66 ⟨v460, v463, rfl, ho0, ho1, hb⟩
      refine ⟨_, rfl, ?_⟩
      have n0_ := Aside0.mk (Kd.R_mono (Kd.R_told (Kd.R_told (Kd.R_old (by (with_reducible repeat (first | apply Kd.R_alloc | apply Kd.R_drewN | apply Kd.R_drew)); exact Q443_0.1) hb) (Kd.R_base ho0)) (Kd.R_base ho1)) (fun _ h_ => h_.1))
      have n1_ := Aside0.mk (Kd.R_mono (Kd.R_told (Kd.R_told (Kd.R_old (by (with_reducible repeat (first | apply Kd.R_alloc | apply Kd.R_drewN | apply Kd.R_drew)); exact Q443_1.1) hb) (Kd.R_base ho0)) (Kd.R_base ho1)) (fun _ h_ => h_.1))
      have n2_ := Aside0.mk (Kd.R_mono (Kd.R_told (Kd.R_told (Kd.R_old (by (with_reducible repeat (first | apply Kd.R_alloc | apply Kd.R_drewN | apply Kd.R_drew)); exact Q450_0.1) hb) (Kd.R_base ho0)) (Kd.R_base ho1)) (fun _ h_ => h_.1))
      have n3_ := Aside0.mk (Kd.R_mono (Kd.R_told (Kd.R_told (Kd.R_old (by (with_reducible repeat (first | apply Kd.R_alloc | apply Kd.R_drewN | apply Kd.R_drew)); exact Q450_1.1) hb) (Kd.R_base ho0)) (Kd.R_base ho1)) (fun _ h_ => h_.1))
      have n4_ := Aside0.mk (Kd.R_mono (Kd.R_told (Kd.R_told (Kd.R_old (by (with_reducible repeat (first | apply Kd.R_alloc | apply Kd.R_drewN | apply Kd.R_drew)); exact Q458_0.1) hb) (Kd.R_base ho0)) (Kd.R_base ho1)) (fun _ h_ => h_.1))
      have n5_ := Aside0.mk (Kd.R_mono (Kd.R_told (Kd.R_told (Kd.R_old (by (with_reducible repeat (first | apply Kd.R_alloc | apply Kd.R_drewN | apply Kd.R_drew)); exact Q458_1.1) hb) (Kd.R_base ho0)) (Kd.R_base ho1)) (fun _ h_ => h_.1))
      have n6_ := Aside0.mk (Kd.R_lower (Kd.R_new' (Kd.R_new' (Kd.R_new' (Kd.R_new' (Kd.R_new' (Kd.R_new' ho0 (Kd.R_lt (by (with_reducible repeat (first | apply Kd.R_alloc | apply Kd.R_drewN | apply Kd.R_drew)); exact Q443_0.1))) (Kd.R_lt (by (with_reducible repeat (first | apply Kd.R_alloc | apply Kd.R_drewN | apply Kd.R_drew)); exact Q443_1.1))) (Kd.R_lt (by (with_reducible repeat (first | apply Kd.R_alloc | apply Kd.R_drewN | apply Kd.R_drew)); exact Q450_0.1))) (Kd.R_lt (by (with_reducible repeat (first | apply Kd.R_alloc | apply Kd.R_drewN | apply Kd.R_drew)); exact Q450_1.1))) (Kd.R_lt (by (with_reducible repeat (first | apply Kd.R_alloc | apply Kd.R_drewN | apply Kd.R_drew)); exact Q458_0.1))) (Kd.R_lt (by (with_reducible repeat (first | apply Kd.R_alloc | apply Kd.R_drewN | apply Kd.R_drew)); exact Q458_1.1))) (below_size (by repeat (first | (with_reducible first | exact HB.1 | apply below_alloc | apply pw_below_drewN | apply below_drew1 | refine below_set ?_ GE427.1 | refine below_set ?_ GE442.1 | refine below_set ?_ GE449.1 | refine below_set ?_ GE457.1) | exact HB.1))))
      have n7_ := Aside0.mk (Kd.R_lower (Kd.R_new' (Kd.R_new' (Kd.R_new' (Kd.R_new' (Kd.R_new' (Kd.R_new' ho1 (Kd.R_lt (by (with_reducible repeat (first | apply Kd.R_alloc | apply Kd.R_drewN | apply Kd.R_drew)); exact Q443_0.1))) (Kd.R_lt (by (with_reducible repeat (first | apply Kd.R_alloc | apply Kd.R_drewN | apply Kd.R_drew)); exact Q443_1.1))) (Kd.R_lt (by (with_reducible repeat (first | apply Kd.R_alloc | apply Kd.R_drewN | apply Kd.R_drew)); exact Q450_0.1))) (Kd.R_lt (by (with_reducible repeat (first | apply Kd.R_alloc | apply Kd.R_drewN | apply Kd.R_drew)); exact Q450_1.1))) (Kd.R_lt (by (with_reducible repeat (first | apply Kd.R_alloc | apply Kd.R_drewN | apply Kd.R_drew)); exact Q458_0.1))) (Kd.R_lt (by (with_reducible repeat (first | apply Kd.R_alloc | apply Kd.R_drewN | apply Kd.R_drew)); exact Q458_1.1))) (below_size (by repeat (first | (with_reducible first | exact HB.1 | apply below_alloc | apply pw_below_drewN | apply below_drew1 | refine below_set ?_ GE427.1 | refine below_set ?_ GE442.1 | refine below_set ?_ GE449.1 | refine below_set ?_ GE457.1) | exact HB.1))))
      have n8_ := Aside0.mk (blk_below (g := gb427) (o := .cells #[.slice A0_0 l0_0.length c0_0, .slice A0_1 l0_1.length c0_1] 24 (0, 0)) (by (with_reducible repeat (first | refine blk_drewN ?_ _ | refine blk_drew ?_ | refine blk_alloc ?_ _)); exact BK427.1) hb)
      have n9_ := Aside0.mk (blk_below (g := gb442) (o := .cells #[.slice Ao21 t435.length co21, .slice Ao24 t438.length co24] 28 (0, 0)) (by (with_reducible repeat (first | refine blk_drewN ?_ _ | refine blk_drew ?_ | refine blk_alloc ?_ _)); exact BK442.1) hb)
      have n10_ := Aside0.mk (blk_below (g := gb449) (o := .cells #[.slice Ao28 t443.length co28, .slice Ao32 t446.length co32] 28 (0, 0)) (by (with_reducible repeat (first | refine blk_drewN ?_ _ | refine blk_drew ?_ | refine blk_alloc ?_ _)); exact BK449.1) hb)
      have n11_ := Aside0.mk (blk_below (g := gb457) (o := .cells #[.slice Ao35 t450.length co35, .slice Ao40 t453.length co40] 28 (0, 0)) (by (with_reducible repeat (first | refine blk_drewN ?_ _ | refine blk_drew ?_ | refine blk_alloc ?_ _)); exact BK457.1) hb)
      have n12_ := Aside0.mk (below_step (by repeat (first | (with_reducible first | exact HB.1 | apply below_alloc | apply pw_below_drewN | apply below_drew1 | refine below_set ?_ GE427.1 | refine below_set ?_ GE442.1 | refine below_set ?_ GE449.1 | refine below_set ?_ GE457.1) | exact HB.1)) hb)
      clear Q443_0
      clear Q443_1
      clear Q450_0
      clear Q450_1
      clear Q458_0
      clear Q458_1
      clear BK427
      clear BK442
      clear BK449
      clear BK457
      clear HB
      have Q443_0 := n0_
      have Q443_1 := n1_
      have Q450_0 := n2_
      have Q450_1 := n3_
      have Q458_0 := n4_
      have Q458_1 := n5_
      have HO461 := n6_
      have HO464 := n7_
      have BK427 := n8_
      have BK442 := n9_
      have BK449 := n10_
      have BK457 := n11_
      have HB := n12_
      clear n0_ n1_ n2_ n3_ n4_ n5_ n6_ n7_ n8_ n9_ n10_ n11_ n12_
      (try clear hb)
      (try clear hb2)
      (try clear hk)
      (try clear hi)
      (try clear ho0)
      (try clear ho1)
      obtain ⟨Ao67, co67, eo67⟩ := Kd.R_slice HO461.1
      (first | subst eo67 | (injection eo67 with f1_ f2_ f3_; have f4_ := f1_.symm; have f5_ := f3_.symm; clear f1_ f2_ f3_; subst f4_; subst f5_))
      obtain ⟨Ao68, co68, eo68⟩ := Kd.R_slice HO464.1
      (first | subst eo68 | (injection eo68 with f1_ f2_ f3_; have f4_ := f1_.symm; have f5_ := f3_.symm; clear f1_ f2_ f3_; subst f4_; subst f5_))
      refine hK.out _ _ ⟨(blk_cell BK449.1 0).trans rfl, (blk_cell BK449.1 1).trans rfl, (blk_cell BK427.1 0).trans rfl, (blk_cell BK427.1 1).trans rfl⟩ (fun hHeld => ?_)
      clear hK K
      refine norm_ (a' := ?_) ?_ ?_
      rotate_left
      ·show Act.put _ (some 43) _ = _
       simp only [Act.put, List.setIfInBounds_toArray, List.set_cons_zero, List.set_cons_succ, i64_w, i32_w]
       rfl
      refine one_ (i := 3) (N := some 44) #[true, true, true, true, false] rfl rfl (by kernel_rfl) (by decide) (fun K hK => ?_)
      refine goes_ Try.func19 (by kernel_rfl) rfl #[.agg #[.slice Ao28 t443.length co28, .slice Ao32 t446.length co32], .agg #[.slice Ao67 t459.length co67, .slice Ao68 t462.length co68]] (by rfl) rfl rfl (by (try simp only [List.map_toArray, List.map_cons, List.map_nil]); first | done | rfl | (simp only [List.length_drop, List.length_take]; rfl)) ?_
      with_reducible refine (laws_eqGloves.calls kj10 _ _ t443 _ _ t446 _ _ t459 _ _ t462 true _ ?side1 ?side2 ?side3 ?side4 ?side5 ?side6 ?side7 ?side8 A61.1).mono ?_
      (case side1 => repeat (first | exact (Kd.R_reads' Q450_0.1).2.2 | (with_reducible refine Kd.C_alloc ?_ _) | (with_reducible refine Kd.C_drewN ?_ _) | (with_reducible refine Kd.C_drew ?_)))
      (case side2 => exact (Kd.R_reads' Q450_0.1).2.1)
      (case side3 => repeat (first | exact (Kd.R_reads' Q450_1.1).2.2 | (with_reducible refine Kd.C_alloc ?_ _) | (with_reducible refine Kd.C_drewN ?_ _) | (with_reducible refine Kd.C_drew ?_)))
      (case side4 => exact (Kd.R_reads' Q450_1.1).2.1)
      (case side5 => repeat (first | exact (Kd.R_reads' HO461.1).2.2 | (with_reducible refine Kd.C_alloc ?_ _) | (with_reducible refine Kd.C_drewN ?_ _) | (with_reducible refine Kd.C_drew ?_)))
      (case side6 => exact (Kd.R_reads' HO461.1).2.1)
      (case side7 => repeat (first | exact (Kd.R_reads' HO464.1).2.2 | (with_reducible refine Kd.C_alloc ?_ _) | (with_reducible refine Kd.C_drewN ?_ _) | (with_reducible refine Kd.C_drew ?_)))
      (case side8 => exact (Kd.R_reads' HO464.1).2.1)
      rintro e w69 ⟨rfl, hb⟩
      refine ⟨_, rfl, ?_⟩
      have n0_ := Aside0.mk (Kd.R_below (by (with_reducible repeat (first | apply Kd.R_alloc | apply Kd.R_drewN | apply Kd.R_drew)); exact Q443_0.1) hb)
      have n1_ := Aside0.mk (Kd.R_below (by (with_reducible repeat (first | apply Kd.R_alloc | apply Kd.R_drewN | apply Kd.R_drew)); exact Q443_1.1) hb)
      have n2_ := Aside0.mk (Kd.R_below (by (with_reducible repeat (first | apply Kd.R_alloc | apply Kd.R_drewN | apply Kd.R_drew)); exact Q450_0.1) hb)
      have n3_ := Aside0.mk (Kd.R_below (by (with_reducible repeat (first | apply Kd.R_alloc | apply Kd.R_drewN | apply Kd.R_drew)); exact Q450_1.1) hb)
      have n4_ := Aside0.mk (Kd.R_below (by (with_reducible repeat (first | apply Kd.R_alloc | apply Kd.R_drewN | apply Kd.R_drew)); exact Q458_0.1) hb)
      have n5_ := Aside0.mk (Kd.R_below (by (with_reducible repeat (first | apply Kd.R_alloc | apply Kd.R_drewN | apply Kd.R_drew)); exact Q458_1.1) hb)
      have n6_ := Aside0.mk (Kd.R_below (by (with_reducible repeat (first | apply Kd.R_alloc | apply Kd.R_drewN | apply Kd.R_drew)); exact HO461.1) hb)
      have n7_ := Aside0.mk (Kd.R_below (by (with_reducible repeat (first | apply Kd.R_alloc | apply Kd.R_drewN | apply Kd.R_drew)); exact HO464.1) hb)
      have n8_ := Aside0.mk (blk_below (g := gb427) (o := .cells #[.slice A0_0 l0_0.length c0_0, .slice A0_1 l0_1.length c0_1] 24 (0, 0)) (by (with_reducible repeat (first | refine blk_drewN ?_ _ | refine blk_drew ?_ | refine blk_alloc ?_ _)); exact BK427.1) hb)
      have n9_ := Aside0.mk (blk_below (g := gb442) (o := .cells #[.slice Ao21 t435.length co21, .slice Ao24 t438.length co24] 28 (0, 0)) (by (with_reducible repeat (first | refine blk_drewN ?_ _ | refine blk_drew ?_ | refine blk_alloc ?_ _)); exact BK442.1) hb)
      have n10_ := Aside0.mk (blk_below (g := gb449) (o := .cells #[.slice Ao28 t443.length co28, .slice Ao32 t446.length co32] 28 (0, 0)) (by (with_reducible repeat (first | refine blk_drewN ?_ _ | refine blk_drew ?_ | refine blk_alloc ?_ _)); exact BK449.1) hb)
      have n11_ := Aside0.mk (blk_below (g := gb457) (o := .cells #[.slice Ao35 t450.length co35, .slice Ao40 t453.length co40] 28 (0, 0)) (by (with_reducible repeat (first | refine blk_drewN ?_ _ | refine blk_drew ?_ | refine blk_alloc ?_ _)); exact BK457.1) hb)
      have n12_ := Aside0.mk (below_step (by repeat (first | (with_reducible first | exact HB.1 | apply below_alloc | apply pw_below_drewN | apply below_drew1 | refine below_set ?_ GE427.1 | refine below_set ?_ GE442.1 | refine below_set ?_ GE449.1 | refine below_set ?_ GE457.1) | exact HB.1)) hb)
      clear Q443_0
      clear Q443_1
      clear Q450_0
      clear Q450_1
      clear Q458_0
      clear Q458_1
      clear HO461
      clear HO464
      clear BK427
      clear BK442
      clear BK449
      clear BK457
      clear HB
      have Q443_0 := n0_
      have Q443_1 := n1_
      have Q450_0 := n2_
      have Q450_1 := n3_
      have Q458_0 := n4_
      have Q458_1 := n5_
      have HO461 := n6_
      have HO464 := n7_
      have BK427 := n8_
      have BK442 := n9_
      have BK449 := n10_
      have BK457 := n11_
      have HB := n12_
      clear n0_ n1_ n2_ n3_ n4_ n5_ n6_ n7_ n8_ n9_ n10_ n11_ n12_
      (try clear hb)
      (try clear hb2)
      (try clear hk)
      (try clear hi)
      refine hK.out _ _ ⟨(blk_cell BK449.1 0).trans rfl, (blk_cell BK449.1 1).trans rfl, (blk_cell BK427.1 0).trans rfl, (blk_cell BK427.1 1).trans rfl⟩ (fun hHeld => ?_)
      clear hK K
      refine norm_ (a' := ?_) ?_ ?_
      rotate_left
      ·show Act.put _ (some 44) _ = _
       simp only [Act.put, List.setIfInBounds_toArray, List.set_cons_zero, List.set_cons_succ, i64_w, i32_w]
       rfl
      refine pure_ (i := 4) (N := some 45) (v := ?_) (a' := ?_) #[true, true, true, true, true] rfl rfl (by kernel_rfl) (fun _ _ _ h => h) (Or.inl ⟨by rfl, ?_⟩) ?_ ?_
      rotate_left
      ·intro w'
       go_simp
       with_reducible rfl
      rotate_left
      ·simp only [Act.put, List.setIfInBounds_toArray, List.set_cons_zero, List.set_cons_succ, i64_w, i32_w]
       rfl
      refine done_ (by kernel_rfl) ?_
      have hnb70 := NB449_427.1
      have hnc70 := NB427_449.1
      have hnb71 := NB449_442.1
      have hnc71 := NB442_449.1
      have hnb72 := NB449_457.1
      have hnc72 := NB457_449.1
      have hcz73_0 : w69.cell? ⟨gb449, 0, none⟩ = some (.slice Ao28 t443.length co28) := (blk_cell BK449.1 0).trans rfl
      have hcz73_1 : w69.cell? ⟨gb449, 1, none⟩ = some (.slice Ao32 t446.length co32) := (blk_cell BK449.1 1).trans rfl
      have hfz73_0 := blk_frozen BK449.1 0
      have hfz73_1 := blk_frozen BK449.1 1
      go_upto_region 14 with (first | ((with_reducible refine gate_callee (f := 28) rfl ?_); refine goesL_ (some 48) rfl rfl Try.func28 (by kernel_rfl) rfl #[.agg #[.slice Ao28 t443.length co28, .slice Ao32 t446.length co32], .int .i64 1] rfl (by (try simp only [List.map_toArray, List.map_cons, List.map_nil]); first | done | rfl | (simp only [List.length_drop, List.length_take]; rfl)) ?_; (with_reducible refine (laws_markGloves.calls kj10 (fun k_ => some k_ = (.slice Ao28 t443.length co28 : Value).ownBlock) (.slice Ao28 t443.length co28) t443 (fun k_ => some k_ = (.slice Ao32 t446.length co32 : Value).ownBlock) (.slice Ao32 t446.length co32) t446 1 t466 t467 t468 w _ ?side1 ?side2 ?side3 ?side4 ?side5 A63.1).mono ?_); (case side1 => repeat (first | (with_reducible first | exact HB.1 | apply below_alloc | apply pw_below_drewN | apply below_drew1 | refine below_set ?_ GE427.1 | refine below_set ?_ GE442.1 | refine below_set ?_ GE449.1 | refine below_set ?_ GE457.1) | exact HB.1)); (case side2 => exact Kd.R_tight rfl Q450_0.1); (case side3 => exact fun k_ e_ => (Q450_0.1.1 k_ e_.symm).1.1.2.2.1); (case side4 => exact Kd.R_tight rfl Q450_1.1); (case side5 => exact fun k_ e_ => (Q450_1.1.1 k_ e_.symm).1.1.2.2.1); rintro e w74 ⟨rfl, hy0, hy1, hb, hkp⟩; refine ⟨_, rfl, ?_⟩; have n0_ := Aside0.mk (Kd.R_mono (ok' := fun k_ => some k_ ≠ (.slice Ao24 t438.length co24 : Value).ownBlock ∧ some k_ ≠ (.slice Ao28 t443.length co28 : Value).ownBlock ∧ some k_ ≠ (.slice Ao32 t446.length co32 : Value).ownBlock ∧ some k_ ≠ (.slice Ao35 t450.length co35 : Value).ownBlock ∧ some k_ ≠ (.slice Ao40 t453.length co40 : Value).ownBlock ∧ some k_ ≠ (.slice Ao67 t459.length co67 : Value).ownBlock ∧ some k_ ≠ (.slice Ao68 t462.length co68 : Value).ownBlock) (Kd.R_keptB (Q443_0.1) hkp (fun k_ hk_ hs_ => Or.elim hs_ (fun e_ => (hk_.1.1.2.1) e_) (fun e_ => (hk_.1.1.2.2.1) e_))) (fun k_ hk_ => ⟨hk_.1.1.1.1, hk_.1.1.1.2.1, hk_.1.1.1.2.2.1, hk_.1.1.1.2.2.2.1, hk_.1.1.1.2.2.2.2, hk_.1.1.2, hk_.1.2⟩)); have n1_ := Aside0.mk (Kd.R_mono (ok' := fun k_ => some k_ ≠ (.slice Ao21 t435.length co21 : Value).ownBlock ∧ some k_ ≠ (.slice Ao28 t443.length co28 : Value).ownBlock ∧ some k_ ≠ (.slice Ao32 t446.length co32 : Value).ownBlock ∧ some k_ ≠ (.slice Ao35 t450.length co35 : Value).ownBlock ∧ some k_ ≠ (.slice Ao40 t453.length co40 : Value).ownBlock ∧ some k_ ≠ (.slice Ao67 t459.length co67 : Value).ownBlock ∧ some k_ ≠ (.slice Ao68 t462.length co68 : Value).ownBlock) (Kd.R_keptB (Q443_1.1) hkp (fun k_ hk_ hs_ => Or.elim hs_ (fun e_ => (hk_.1.1.2.1) e_) (fun e_ => (hk_.1.1.2.2.1) e_))) (fun k_ hk_ => ⟨hk_.1.1.1.1, hk_.1.1.1.2.1, hk_.1.1.1.2.2.1, hk_.1.1.1.2.2.2.1, hk_.1.1.1.2.2.2.2, hk_.1.1.2, hk_.1.2⟩)); have n2_ := Aside0.mk (Kd.R_reok rfl hy0 (fun k_ e_ => Q450_0.1.1 k_ e_)); have n3_ := Aside0.mk (Kd.R_reok rfl hy1 (fun k_ e_ => Q450_1.1.1 k_ e_)); have n4_ := Aside0.mk (Kd.R_mono (ok' := fun k_ => some k_ ≠ (.slice Ao21 t435.length co21 : Value).ownBlock ∧ some k_ ≠ (.slice Ao24 t438.length co24 : Value).ownBlock ∧ some k_ ≠ (.slice Ao28 t443.length co28 : Value).ownBlock ∧ some k_ ≠ (.slice Ao32 t446.length co32 : Value).ownBlock ∧ some k_ ≠ (.slice Ao40 t453.length co40 : Value).ownBlock ∧ some k_ ≠ (.slice Ao67 t459.length co67 : Value).ownBlock ∧ some k_ ≠ (.slice Ao68 t462.length co68 : Value).ownBlock) (Kd.R_keptB (Q458_0.1) hkp (fun k_ hk_ hs_ => Or.elim hs_ (fun e_ => (hk_.1.1.2.2.1) e_) (fun e_ => (hk_.1.1.2.2.2.1) e_))) (fun k_ hk_ => ⟨hk_.1.1.1.1, hk_.1.1.1.2.1, hk_.1.1.1.2.2.1, hk_.1.1.1.2.2.2.1, hk_.1.1.1.2.2.2.2, hk_.1.1.2, hk_.1.2⟩)); have n5_ := Aside0.mk (Kd.R_mono (ok' := fun k_ => some k_ ≠ (.slice Ao21 t435.length co21 : Value).ownBlock ∧ some k_ ≠ (.slice Ao24 t438.length co24 : Value).ownBlock ∧ some k_ ≠ (.slice Ao28 t443.length co28 : Value).ownBlock ∧ some k_ ≠ (.slice Ao32 t446.length co32 : Value).ownBlock ∧ some k_ ≠ (.slice Ao35 t450.length co35 : Value).ownBlock ∧ some k_ ≠ (.slice Ao67 t459.length co67 : Value).ownBlock ∧ some k_ ≠ (.slice Ao68 t462.length co68 : Value).ownBlock) (Kd.R_keptB (Q458_1.1) hkp (fun k_ hk_ hs_ => Or.elim hs_ (fun e_ => (hk_.1.1.2.2.1) e_) (fun e_ => (hk_.1.1.2.2.2.1) e_))) (fun k_ hk_ => ⟨hk_.1.1.1.1, hk_.1.1.1.2.1, hk_.1.1.1.2.2.1, hk_.1.1.1.2.2.2.1, hk_.1.1.1.2.2.2.2, hk_.1.1.2, hk_.1.2⟩)); have n6_ := Aside0.mk (blk_kept (by (with_reducible repeat (first | refine blk_drewN ?_ _ | refine blk_drew ?_ | refine blk_alloc ?_ _)); exact BK427.1) hkp (fun hs_ => Or.elim hs_ (fun e_ => (fun e_ => (Kd.R_ne Q450_0.1 BK427.1 (by decide)) e_) e_) (fun e_ => (fun e_ => (Kd.R_ne Q450_1.1 BK427.1 (by decide)) e_) e_))); have n7_ := Aside0.mk (blk_kept (by (with_reducible repeat (first | refine blk_drewN ?_ _ | refine blk_drew ?_ | refine blk_alloc ?_ _)); exact BK442.1) hkp (fun hs_ => Or.elim hs_ (fun e_ => (fun e_ => (Kd.R_ne Q450_0.1 BK442.1 (by decide)) e_) e_) (fun e_ => (fun e_ => (Kd.R_ne Q450_1.1 BK442.1 (by decide)) e_) e_))); have n8_ := Aside0.mk (blk_kept (by (with_reducible repeat (first | refine blk_drewN ?_ _ | refine blk_drew ?_ | refine blk_alloc ?_ _)); exact BK449.1) hkp (fun hs_ => Or.elim hs_ (fun e_ => (fun e_ => (Kd.R_ne Q450_0.1 BK449.1 (by decide)) e_) e_) (fun e_ => (fun e_ => (Kd.R_ne Q450_1.1 BK449.1 (by decide)) e_) e_))); have n9_ := Aside0.mk (blk_kept (by (with_reducible repeat (first | refine blk_drewN ?_ _ | refine blk_drew ?_ | refine blk_alloc ?_ _)); exact BK457.1) hkp (fun hs_ => Or.elim hs_ (fun e_ => (fun e_ => (Kd.R_ne Q450_0.1 BK457.1 (by decide)) e_) e_) (fun e_ => (fun e_ => (Kd.R_ne Q450_1.1 BK457.1 (by decide)) e_) e_))); have n10_ := Aside0.mk (Kd.R_mono (ok' := fun k_ => some k_ ≠ (.slice Ao21 t435.length co21 : Value).ownBlock ∧ some k_ ≠ (.slice Ao24 t438.length co24 : Value).ownBlock ∧ some k_ ≠ (.slice Ao28 t443.length co28 : Value).ownBlock ∧ some k_ ≠ (.slice Ao32 t446.length co32 : Value).ownBlock ∧ some k_ ≠ (.slice Ao35 t450.length co35 : Value).ownBlock ∧ some k_ ≠ (.slice Ao40 t453.length co40 : Value).ownBlock ∧ some k_ ≠ (.slice Ao68 t462.length co68 : Value).ownBlock) (Kd.R_keptB (HO461.1) hkp (fun k_ hk_ hs_ => Or.elim hs_ (fun e_ => (hk_.1.1.1.2) e_) (fun e_ => (hk_.1.1.2) e_))) (fun k_ hk_ => ⟨hk_.1.1.1.1.1.1.2, hk_.1.1.1.1.1.2, hk_.1.1.1.1.2, hk_.1.1.1.2, hk_.1.1.2, hk_.1.2, hk_.1.1.1.1.1.1.1⟩)); have n11_ := Aside0.mk (Kd.R_mono (ok' := fun k_ => some k_ ≠ (.slice Ao21 t435.length co21 : Value).ownBlock ∧ some k_ ≠ (.slice Ao24 t438.length co24 : Value).ownBlock ∧ some k_ ≠ (.slice Ao28 t443.length co28 : Value).ownBlock ∧ some k_ ≠ (.slice Ao32 t446.length co32 : Value).ownBlock ∧ some k_ ≠ (.slice Ao35 t450.length co35 : Value).ownBlock ∧ some k_ ≠ (.slice Ao40 t453.length co40 : Value).ownBlock ∧ some k_ ≠ (.slice Ao67 t459.length co67 : Value).ownBlock) (Kd.R_keptB (HO464.1) hkp (fun k_ hk_ hs_ => Or.elim hs_ (fun e_ => (hk_.1.1.1.2) e_) (fun e_ => (hk_.1.1.2) e_))) (fun k_ hk_ => ⟨hk_.1.1.1.1.1.1.2, hk_.1.1.1.1.1.2, hk_.1.1.1.1.2, hk_.1.1.1.2, hk_.1.1.2, hk_.1.2, hk_.1.1.1.1.1.1.1⟩)); have n12_ := Aside0.mk (hb); clear Q443_0; clear Q443_1; clear Q450_0; clear Q450_1; clear Q458_0; clear Q458_1; clear BK427; clear BK442; clear BK449; clear BK457; clear HO461; clear HO464; clear HB; have Q443_0 := n0_; have Q443_1 := n1_; have Q450_0 := n2_; have Q450_1 := n3_; have Q458_0 := n4_; have Q458_1 := n5_; have BK427 := n6_; have BK442 := n7_; have BK449 := n8_; have BK457 := n9_; have HO461 := n10_; have HO464 := n11_; have HB := n12_; clear n0_ n1_ n2_ n3_ n4_ n5_ n6_ n7_ n8_ n9_ n10_ n11_ n12_; (try clear hb); (try clear hkp); (try clear hy0); (try clear hy1)))
      (try simp only [Act.put, List.setIfInBounds_toArray, List.set_cons_zero, List.set_cons_succ])
      go_cut [61] (fun v61 wc => ∃ (kq : Nat) (x61_63 : Bool), v61 = .bool x61_63 ∧ Aside0 (laws_FnExactLooseGloves.j1 kq t441 x61_63 l0_0 l0_1 t435 t438 t450 t453 = some r) ∧ Aside0 (kq ≤ kj10) ∧ Aside0 (Kd.R (Kd.int .i64) 3 wc w.heap.size (fun k_ => some k_ ≠ ((.slice Ao24 t438.length co24) : Value).ownBlock ∧ some k_ ≠ ((.slice Ao28 t443.length co28) : Value).ownBlock ∧ some k_ ≠ ((.slice Ao32 t446.length co32) : Value).ownBlock ∧ some k_ ≠ ((.slice Ao35 t450.length co35) : Value).ownBlock ∧ some k_ ≠ ((.slice Ao40 t453.length co40) : Value).ownBlock) (.slice Ao21 t435.length co21) t435) ∧ Aside0 (Kd.R (Kd.int .i64) 3 wc w.heap.size (fun k_ => some k_ ≠ ((.slice Ao21 t435.length co21) : Value).ownBlock ∧ some k_ ≠ ((.slice Ao28 t443.length co28) : Value).ownBlock ∧ some k_ ≠ ((.slice Ao32 t446.length co32) : Value).ownBlock ∧ some k_ ≠ ((.slice Ao35 t450.length co35) : Value).ownBlock ∧ some k_ ≠ ((.slice Ao40 t453.length co40) : Value).ownBlock) (.slice Ao24 t438.length co24) t438) ∧ Aside0 (Kd.R (Kd.int .i64) 3 wc w.heap.size (fun k_ => some k_ ≠ ((.slice Ao21 t435.length co21) : Value).ownBlock ∧ some k_ ≠ ((.slice Ao24 t438.length co24) : Value).ownBlock ∧ some k_ ≠ ((.slice Ao32 t446.length co32) : Value).ownBlock ∧ some k_ ≠ ((.slice Ao35 t450.length co35) : Value).ownBlock ∧ some k_ ≠ ((.slice Ao40 t453.length co40) : Value).ownBlock) (.slice Ao28 t443.length co28) t467) ∧ Aside0 (Kd.R (Kd.int .i64) 3 wc w.heap.size (fun k_ => some k_ ≠ ((.slice Ao21 t435.length co21) : Value).ownBlock ∧ some k_ ≠ ((.slice Ao24 t438.length co24) : Value).ownBlock ∧ some k_ ≠ ((.slice Ao28 t443.length co28) : Value).ownBlock ∧ some k_ ≠ ((.slice Ao35 t450.length co35) : Value).ownBlock ∧ some k_ ≠ ((.slice Ao40 t453.length co40) : Value).ownBlock) (.slice Ao32 t446.length co32) t468) ∧ Aside0 (Kd.R (Kd.int .i64) 3 wc w.heap.size (fun k_ => some k_ ≠ ((.slice Ao21 t435.length co21) : Value).ownBlock ∧ some k_ ≠ ((.slice Ao24 t438.length co24) : Value).ownBlock ∧ some k_ ≠ ((.slice Ao28 t443.length co28) : Value).ownBlock ∧ some k_ ≠ ((.slice Ao32 t446.length co32) : Value).ownBlock ∧ some k_ ≠ ((.slice Ao40 t453.length co40) : Value).ownBlock) (.slice Ao35 t450.length co35) t450) ∧ Aside0 (Kd.R (Kd.int .i64) 3 wc w.heap.size (fun k_ => some k_ ≠ ((.slice Ao21 t435.length co21) : Value).ownBlock ∧ some k_ ≠ ((.slice Ao24 t438.length co24) : Value).ownBlock ∧ some k_ ≠ ((.slice Ao28 t443.length co28) : Value).ownBlock ∧ some k_ ≠ ((.slice Ao32 t446.length co32) : Value).ownBlock ∧ some k_ ≠ ((.slice Ao35 t450.length co35) : Value).ownBlock) (.slice Ao40 t453.length co40) t453) ∧ Aside0 (wc.heap[gb427]? = some (.cells #[(.slice A0_0 l0_0.length c0_0), (.slice A0_1 l0_1.length c0_1)] 24 (0, 0))) ∧ Aside0 (wc.heap[gb442]? = some (.cells #[(.slice Ao21 t435.length co21), (.slice Ao24 t438.length co24)] 28 (0, 0))) ∧ Aside0 (wc.heap[gb449]? = some (.cells #[(.slice Ao28 t443.length co28), (.slice Ao32 t446.length co32)] 28 (0, 0))) ∧ Aside0 (wc.heap[gb457]? = some (.cells #[(.slice Ao35 t450.length co35), (.slice Ao40 t453.length co40)] 28 (0, 0))) ∧ Aside0 (Below w.heap.size w wc))
      case first =>
       have H := HC64.1
       clear HC64
       by_cases c75 : t466 < 0
       ·rw [if_pos c75] at H
        have c75b0 : decide (t466 < 0) = true := decide_eq_true c75
        clear c75
        (first | rw [c75b0] | (simp only [i64_w, i32_w]; rw [c75b0]) | skip)
        have H' := Aside0.mk H
        clear H
        go_wp2
        go_meet
        case rel => exact ⟨_, (true), (by first | rfl | (simp; done) | (simp [*]; done) | (simp [Go.IntWalk.i64_left]; done)), H', ⟨by have := HJ10.1; first | omega | exact Nat.le_refl _⟩, ⟨by (with_reducible repeat (first | apply Kd.R_alloc | apply Kd.R_drewN | apply Kd.R_drew)); exact Kd.R_mono Q443_0.1 (fun _ hk => ⟨hk.1, ⟨hk.2.1, ⟨hk.2.2.1, ⟨hk.2.2.2.1, hk.2.2.2.2.1⟩⟩⟩⟩)⟩, ⟨by (with_reducible repeat (first | apply Kd.R_alloc | apply Kd.R_drewN | apply Kd.R_drew)); exact Kd.R_mono Q443_1.1 (fun _ hk => ⟨hk.1, ⟨hk.2.1, ⟨hk.2.2.1, ⟨hk.2.2.2.1, hk.2.2.2.2.1⟩⟩⟩⟩)⟩, ⟨by (with_reducible repeat (first | apply Kd.R_alloc | apply Kd.R_drewN | apply Kd.R_drew)); exact Kd.R_mono Q450_0.1 (fun _ hk => ⟨hk.1.1.1, ⟨hk.1.1.2.1, ⟨hk.1.1.2.2.1, ⟨hk.1.1.2.2.2.1, hk.1.1.2.2.2.2⟩⟩⟩⟩)⟩, ⟨by (with_reducible repeat (first | apply Kd.R_alloc | apply Kd.R_drewN | apply Kd.R_drew)); exact Kd.R_mono Q450_1.1 (fun _ hk => ⟨hk.1.1.1, ⟨hk.1.1.2.1, ⟨hk.1.1.2.2.1, ⟨hk.1.1.2.2.2.1, hk.1.1.2.2.2.2⟩⟩⟩⟩)⟩, ⟨by (with_reducible repeat (first | apply Kd.R_alloc | apply Kd.R_drewN | apply Kd.R_drew)); exact Kd.R_mono Q458_0.1 (fun _ hk => ⟨hk.1, ⟨hk.2.1, ⟨hk.2.2.1, ⟨hk.2.2.2.1, hk.2.2.2.2.1⟩⟩⟩⟩)⟩, ⟨by (with_reducible repeat (first | apply Kd.R_alloc | apply Kd.R_drewN | apply Kd.R_drew)); exact Kd.R_mono Q458_1.1 (fun _ hk => ⟨hk.1, ⟨hk.2.1, ⟨hk.2.2.1, ⟨hk.2.2.2.1, hk.2.2.2.2.1⟩⟩⟩⟩)⟩, ⟨by (with_reducible repeat (first | refine blk_drewN ?_ _ | refine blk_drew ?_ | refine blk_alloc ?_ _)); exact BK427.1⟩, ⟨by (with_reducible repeat (first | refine blk_drewN ?_ _ | refine blk_drew ?_ | refine blk_alloc ?_ _)); exact BK442.1⟩, ⟨by (with_reducible repeat (first | refine blk_drewN ?_ _ | refine blk_drew ?_ | refine blk_alloc ?_ _)); exact BK449.1⟩, ⟨by (with_reducible repeat (first | refine blk_drewN ?_ _ | refine blk_drew ?_ | refine blk_alloc ?_ _)); exact BK457.1⟩, ⟨by repeat (first | (with_reducible first | exact HB.1 | apply below_alloc | apply pw_below_drewN | apply below_drew1 | refine below_set ?_ GE427.1 | refine below_set ?_ GE442.1 | refine below_set ?_ GE449.1 | refine below_set ?_ GE457.1) | exact HB.1)⟩⟩
       ·rw [if_neg c75] at H
        have c75b0 : decide (t466 < 0) = false := decide_eq_false c75
        clear c75
        (first | rw [c75b0] | (simp only [i64_w, i32_w]; rw [c75b0]) | skip)
        replace H := Option.bind_eq_some_iff.mp H
        obtain ⟨t469, A760, H⟩ := H
        replace H : (if t469 = true then (laws_FnExactLooseGloves.j1 kj10 t441 (t456 != t441) l0_0 l0_1 t435 t438 t450 t453) else (laws_FnExactLooseGloves.j1 kj10 t441 true l0_0 l0_1 t435 t438 t450 t453)) = some r := H
        have A76 := Aside0.mk A760
        clear A760
        by_cases c77 : t469 = true
        ·subst c77
         have H1 : (laws_FnExactLooseGloves.j1 kj10 t441 (t456 != t441) l0_0 l0_1 t435 t438 t450 t453) = some r := by rw [if_pos rfl] at H; exact H
         clear H
         have H := H1
         clear H1
         have H' := Aside0.mk H
         clear H
         have hnb78 := NB457_427.1
         have hnc78 := NB427_457.1
         have hnb79 := NB457_442.1
         have hnc79 := NB442_457.1
         have hnb80 := NB457_449.1
         have hnc80 := NB449_457.1
         have hcz81_0 : w74.cell? ⟨gb457, 0, none⟩ = some (.slice Ao35 t450.length co35) := (blk_cell BK457.1 0).trans rfl
         have hcz81_1 : w74.cell? ⟨gb457, 1, none⟩ = some (.slice Ao40 t453.length co40) := (blk_cell BK457.1 1).trans rfl
         have hfz81_0 := blk_frozen BK457.1 0
         have hfz81_1 := blk_frozen BK457.1 1
         have hnb82 := NB442_427.1
         have hnc82 := NB427_442.1
         have hnb83 := NB442_449.1
         have hnc83 := NB449_442.1
         have hcz84_0 : w74.cell? ⟨gb442, 0, none⟩ = some (.slice Ao21 t435.length co21) := (blk_cell BK442.1 0).trans rfl
         have hcz84_1 : w74.cell? ⟨gb442, 1, none⟩ = some (.slice Ao24 t438.length co24) := (blk_cell BK442.1 1).trans rfl
         have hfz84_0 := blk_frozen BK442.1 0
         have hfz84_1 := blk_frozen BK442.1 1
         go_wp2_with (first | (go_at_call 19; (with_reducible refine (laws_eqGloves.calls kj10 _ _ t450 _ _ t453 _ _ t435 _ _ t438 true _ ?side1 ?side2 ?side3 ?side4 ?side5 ?side6 ?side7 ?side8 A76.1).mono ?_); (case side1 => repeat (first | exact (Kd.R_reads' Q458_0.1).2.2 | (with_reducible refine Kd.C_alloc ?_ _) | (with_reducible refine Kd.C_drewN ?_ _) | (with_reducible refine Kd.C_drew ?_))); (case side2 => exact (Kd.R_reads' Q458_0.1).2.1); (case side3 => repeat (first | exact (Kd.R_reads' Q458_1.1).2.2 | (with_reducible refine Kd.C_alloc ?_ _) | (with_reducible refine Kd.C_drewN ?_ _) | (with_reducible refine Kd.C_drew ?_))); (case side4 => exact (Kd.R_reads' Q458_1.1).2.1); (case side5 => repeat (first | exact (Kd.R_reads' Q443_0.1).2.2 | (with_reducible refine Kd.C_alloc ?_ _) | (with_reducible refine Kd.C_drewN ?_ _) | (with_reducible refine Kd.C_drew ?_))); (case side6 => exact (Kd.R_reads' Q443_0.1).2.1); (case side7 => repeat (first | exact (Kd.R_reads' Q443_1.1).2.2 | (with_reducible refine Kd.C_alloc ?_ _) | (with_reducible refine Kd.C_drewN ?_ _) | (with_reducible refine Kd.C_drew ?_))); (case side8 => exact (Kd.R_reads' Q443_1.1).2.1); rintro e w85 ⟨rfl, hb⟩; have n0_ := Aside0.mk (Kd.R_below (by (with_reducible repeat (first | apply Kd.R_alloc | apply Kd.R_drewN | apply Kd.R_drew)); exact Q443_0.1) hb); have n1_ := Aside0.mk (Kd.R_below (by (with_reducible repeat (first | apply Kd.R_alloc | apply Kd.R_drewN | apply Kd.R_drew)); exact Q443_1.1) hb); have n2_ := Aside0.mk (Kd.R_below (by (with_reducible repeat (first | apply Kd.R_alloc | apply Kd.R_drewN | apply Kd.R_drew)); exact Q450_0.1) hb); have n3_ := Aside0.mk (Kd.R_below (by (with_reducible repeat (first | apply Kd.R_alloc | apply Kd.R_drewN | apply Kd.R_drew)); exact Q450_1.1) hb); have n4_ := Aside0.mk (Kd.R_below (by (with_reducible repeat (first | apply Kd.R_alloc | apply Kd.R_drewN | apply Kd.R_drew)); exact Q458_0.1) hb); have n5_ := Aside0.mk (Kd.R_below (by (with_reducible repeat (first | apply Kd.R_alloc | apply Kd.R_drewN | apply Kd.R_drew)); exact Q458_1.1) hb); have n6_ := Aside0.mk (Kd.R_below (by (with_reducible repeat (first | apply Kd.R_alloc | apply Kd.R_drewN | apply Kd.R_drew)); exact HO461.1) hb); have n7_ := Aside0.mk (Kd.R_below (by (with_reducible repeat (first | apply Kd.R_alloc | apply Kd.R_drewN | apply Kd.R_drew)); exact HO464.1) hb); have n8_ := Aside0.mk (blk_below (g := gb427) (o := .cells #[.slice A0_0 l0_0.length c0_0, .slice A0_1 l0_1.length c0_1] 24 (0, 0)) (by (with_reducible repeat (first | refine blk_drewN ?_ _ | refine blk_drew ?_ | refine blk_alloc ?_ _)); exact BK427.1) hb); have n9_ := Aside0.mk (blk_below (g := gb442) (o := .cells #[.slice Ao21 t435.length co21, .slice Ao24 t438.length co24] 28 (0, 0)) (by (with_reducible repeat (first | refine blk_drewN ?_ _ | refine blk_drew ?_ | refine blk_alloc ?_ _)); exact BK442.1) hb); have n10_ := Aside0.mk (blk_below (g := gb449) (o := .cells #[.slice Ao28 t443.length co28, .slice Ao32 t446.length co32] 28 (0, 0)) (by (with_reducible repeat (first | refine blk_drewN ?_ _ | refine blk_drew ?_ | refine blk_alloc ?_ _)); exact BK449.1) hb); have n11_ := Aside0.mk (blk_below (g := gb457) (o := .cells #[.slice Ao35 t450.length co35, .slice Ao40 t453.length co40] 28 (0, 0)) (by (with_reducible repeat (first | refine blk_drewN ?_ _ | refine blk_drew ?_ | refine blk_alloc ?_ _)); exact BK457.1) hb); have n12_ := Aside0.mk (below_step (by repeat (first | (with_reducible first | exact HB.1 | apply below_alloc | apply pw_below_drewN | apply below_drew1 | refine below_set ?_ GE427.1 | refine below_set ?_ GE442.1 | refine below_set ?_ GE449.1 | refine below_set ?_ GE457.1) | exact HB.1)) hb); clear Q443_0; clear Q443_1; clear Q450_0; clear Q450_1; clear Q458_0; clear Q458_1; clear HO461; clear HO464; clear BK427; clear BK442; clear BK449; clear BK457; clear HB; have Q443_0 := n0_; have Q443_1 := n1_; have Q450_0 := n2_; have Q450_1 := n3_; have Q458_0 := n4_; have Q458_1 := n5_; have HO461 := n6_; have HO464 := n7_; have BK427 := n8_; have BK442 := n9_; have BK449 := n10_; have BK457 := n11_; have HB := n12_; clear n0_ n1_ n2_ n3_ n4_ n5_ n6_ n7_ n8_ n9_ n10_ n11_ n12_; (try clear hb); (try clear hb2); (try clear hk); (try clear hi)))
         go_meet
         case rel => exact ⟨_, ((t456 != t441)), (by first | rfl | (simp; done) | (simp [*]; done) | (simp [Go.IntWalk.i64_left]; done)), H', ⟨by have := HJ10.1; first | omega | exact Nat.le_refl _⟩, ⟨by (with_reducible repeat (first | apply Kd.R_alloc | apply Kd.R_drewN | apply Kd.R_drew)); exact Kd.R_mono Q443_0.1 (fun _ hk => ⟨hk.1, ⟨hk.2.1, ⟨hk.2.2.1, ⟨hk.2.2.2.1, hk.2.2.2.2.1⟩⟩⟩⟩)⟩, ⟨by (with_reducible repeat (first | apply Kd.R_alloc | apply Kd.R_drewN | apply Kd.R_drew)); exact Kd.R_mono Q443_1.1 (fun _ hk => ⟨hk.1, ⟨hk.2.1, ⟨hk.2.2.1, ⟨hk.2.2.2.1, hk.2.2.2.2.1⟩⟩⟩⟩)⟩, ⟨by (with_reducible repeat (first | apply Kd.R_alloc | apply Kd.R_drewN | apply Kd.R_drew)); exact Kd.R_mono Q450_0.1 (fun _ hk => ⟨hk.1.1.1, ⟨hk.1.1.2.1, ⟨hk.1.1.2.2.1, ⟨hk.1.1.2.2.2.1, hk.1.1.2.2.2.2⟩⟩⟩⟩)⟩, ⟨by (with_reducible repeat (first | apply Kd.R_alloc | apply Kd.R_drewN | apply Kd.R_drew)); exact Kd.R_mono Q450_1.1 (fun _ hk => ⟨hk.1.1.1, ⟨hk.1.1.2.1, ⟨hk.1.1.2.2.1, ⟨hk.1.1.2.2.2.1, hk.1.1.2.2.2.2⟩⟩⟩⟩)⟩, ⟨by (with_reducible repeat (first | apply Kd.R_alloc | apply Kd.R_drewN | apply Kd.R_drew)); exact Kd.R_mono Q458_0.1 (fun _ hk => ⟨hk.1, ⟨hk.2.1, ⟨hk.2.2.1, ⟨hk.2.2.2.1, hk.2.2.2.2.1⟩⟩⟩⟩)⟩, ⟨by (with_reducible repeat (first | apply Kd.R_alloc | apply Kd.R_drewN | apply Kd.R_drew)); exact Kd.R_mono Q458_1.1 (fun _ hk => ⟨hk.1, ⟨hk.2.1, ⟨hk.2.2.1, ⟨hk.2.2.2.1, hk.2.2.2.2.1⟩⟩⟩⟩)⟩, ⟨by (with_reducible repeat (first | refine blk_drewN ?_ _ | refine blk_drew ?_ | refine blk_alloc ?_ _)); exact BK427.1⟩, ⟨by (with_reducible repeat (first | refine blk_drewN ?_ _ | refine blk_drew ?_ | refine blk_alloc ?_ _)); exact BK442.1⟩, ⟨by (with_reducible repeat (first | refine blk_drewN ?_ _ | refine blk_drew ?_ | refine blk_alloc ?_ _)); exact BK449.1⟩, ⟨by (with_reducible repeat (first | refine blk_drewN ?_ _ | refine blk_drew ?_ | refine blk_alloc ?_ _)); exact BK457.1⟩, ⟨by repeat (first | (with_reducible first | exact HB.1 | apply below_alloc | apply pw_below_drewN | apply below_drew1 | refine below_set ?_ GE427.1 | refine below_set ?_ GE442.1 | refine below_set ?_ GE449.1 | refine below_set ?_ GE457.1) | exact HB.1)⟩⟩
        ·replace c77 := Bool.eq_false_iff.mpr c77
         subst c77
         have H1 : (laws_FnExactLooseGloves.j1 kj10 t441 true l0_0 l0_1 t435 t438 t450 t453) = some r := by rw [if_neg (show ¬ (false = true) by decide)] at H; exact H
         clear H
         have H := H1
         clear H1
         have H' := Aside0.mk H
         clear H
         have hnb86 := NB457_427.1
         have hnc86 := NB427_457.1
         have hnb87 := NB457_442.1
         have hnc87 := NB442_457.1
         have hnb88 := NB457_449.1
         have hnc88 := NB449_457.1
         have hcz89_0 : w74.cell? ⟨gb457, 0, none⟩ = some (.slice Ao35 t450.length co35) := (blk_cell BK457.1 0).trans rfl
         have hcz89_1 : w74.cell? ⟨gb457, 1, none⟩ = some (.slice Ao40 t453.length co40) := (blk_cell BK457.1 1).trans rfl
         have hfz89_0 := blk_frozen BK457.1 0
         have hfz89_1 := blk_frozen BK457.1 1
         have hnb90 := NB442_427.1
         have hnc90 := NB427_442.1
         have hnb91 := NB442_449.1
         have hnc91 := NB449_442.1
         have hcz92_0 : w74.cell? ⟨gb442, 0, none⟩ = some (.slice Ao21 t435.length co21) := (blk_cell BK442.1 0).trans rfl
         have hcz92_1 : w74.cell? ⟨gb442, 1, none⟩ = some (.slice Ao24 t438.length co24) := (blk_cell BK442.1 1).trans rfl
         have hfz92_0 := blk_frozen BK442.1 0
         have hfz92_1 := blk_frozen BK442.1 1
         go_wp2_with (first | (go_at_call 19; (with_reducible refine (laws_eqGloves.calls kj10 _ _ t450 _ _ t453 _ _ t435 _ _ t438 false _ ?side1 ?side2 ?side3 ?side4 ?side5 ?side6 ?side7 ?side8 A76.1).mono ?_); (case side1 => repeat (first | exact (Kd.R_reads' Q458_0.1).2.2 | (with_reducible refine Kd.C_alloc ?_ _) | (with_reducible refine Kd.C_drewN ?_ _) | (with_reducible refine Kd.C_drew ?_))); (case side2 => exact (Kd.R_reads' Q458_0.1).2.1); (case side3 => repeat (first | exact (Kd.R_reads' Q458_1.1).2.2 | (with_reducible refine Kd.C_alloc ?_ _) | (with_reducible refine Kd.C_drewN ?_ _) | (with_reducible refine Kd.C_drew ?_))); (case side4 => exact (Kd.R_reads' Q458_1.1).2.1); (case side5 => repeat (first | exact (Kd.R_reads' Q443_0.1).2.2 | (with_reducible refine Kd.C_alloc ?_ _) | (with_reducible refine Kd.C_drewN ?_ _) | (with_reducible refine Kd.C_drew ?_))); (case side6 => exact (Kd.R_reads' Q443_0.1).2.1); (case side7 => repeat (first | exact (Kd.R_reads' Q443_1.1).2.2 | (with_reducible refine Kd.C_alloc ?_ _) | (with_reducible refine Kd.C_drewN ?_ _) | (with_reducible refine Kd.C_drew ?_))); (case side8 => exact (Kd.R_reads' Q443_1.1).2.1); rintro e w93 ⟨rfl, hb⟩; have n0_ := Aside0.mk (Kd.R_below (by (with_reducible repeat (first | apply Kd.R_alloc | apply Kd.R_drewN | apply Kd.R_drew)); exact Q443_0.1) hb); have n1_ := Aside0.mk (Kd.R_below (by (with_reducible repeat (first | apply Kd.R_alloc | apply Kd.R_drewN | apply Kd.R_drew)); exact Q443_1.1) hb); have n2_ := Aside0.mk (Kd.R_below (by (with_reducible repeat (first | apply Kd.R_alloc | apply Kd.R_drewN | apply Kd.R_drew)); exact Q450_0.1) hb); have n3_ := Aside0.mk (Kd.R_below (by (with_reducible repeat (first | apply Kd.R_alloc | apply Kd.R_drewN | apply Kd.R_drew)); exact Q450_1.1) hb); have n4_ := Aside0.mk (Kd.R_below (by (with_reducible repeat (first | apply Kd.R_alloc | apply Kd.R_drewN | apply Kd.R_drew)); exact Q458_0.1) hb); have n5_ := Aside0.mk (Kd.R_below (by (with_reducible repeat (first | apply Kd.R_alloc | apply Kd.R_drewN | apply Kd.R_drew)); exact Q458_1.1) hb); have n6_ := Aside0.mk (Kd.R_below (by (with_reducible repeat (first | apply Kd.R_alloc | apply Kd.R_drewN | apply Kd.R_drew)); exact HO461.1) hb); have n7_ := Aside0.mk (Kd.R_below (by (with_reducible repeat (first | apply Kd.R_alloc | apply Kd.R_drewN | apply Kd.R_drew)); exact HO464.1) hb); have n8_ := Aside0.mk (blk_below (g := gb427) (o := .cells #[.slice A0_0 l0_0.length c0_0, .slice A0_1 l0_1.length c0_1] 24 (0, 0)) (by (with_reducible repeat (first | refine blk_drewN ?_ _ | refine blk_drew ?_ | refine blk_alloc ?_ _)); exact BK427.1) hb); have n9_ := Aside0.mk (blk_below (g := gb442) (o := .cells #[.slice Ao21 t435.length co21, .slice Ao24 t438.length co24] 28 (0, 0)) (by (with_reducible repeat (first | refine blk_drewN ?_ _ | refine blk_drew ?_ | refine blk_alloc ?_ _)); exact BK442.1) hb); have n10_ := Aside0.mk (blk_below (g := gb449) (o := .cells #[.slice Ao28 t443.length co28, .slice Ao32 t446.length co32] 28 (0, 0)) (by (with_reducible repeat (first | refine blk_drewN ?_ _ | refine blk_drew ?_ | refine blk_alloc ?_ _)); exact BK449.1) hb); have n11_ := Aside0.mk (blk_below (g := gb457) (o := .cells #[.slice Ao35 t450.length co35, .slice Ao40 t453.length co40] 28 (0, 0)) (by (with_reducible repeat (first | refine blk_drewN ?_ _ | refine blk_drew ?_ | refine blk_alloc ?_ _)); exact BK457.1) hb); have n12_ := Aside0.mk (below_step (by repeat (first | (with_reducible first | exact HB.1 | apply below_alloc | apply pw_below_drewN | apply below_drew1 | refine below_set ?_ GE427.1 | refine below_set ?_ GE442.1 | refine below_set ?_ GE449.1 | refine below_set ?_ GE457.1) | exact HB.1)) hb); clear Q443_0; clear Q443_1; clear Q450_0; clear Q450_1; clear Q458_0; clear Q458_1; clear HO461; clear HO464; clear BK427; clear BK442; clear BK449; clear BK457; clear HB; have Q443_0 := n0_; have Q443_1 := n1_; have Q450_0 := n2_; have Q450_1 := n3_; have Q458_0 := n4_; have Q458_1 := n5_; have HO461 := n6_; have HO464 := n7_; have BK427 := n8_; have BK442 := n9_; have BK449 := n10_; have BK457 := n11_; have HB := n12_; clear n0_ n1_ n2_ n3_ n4_ n5_ n6_ n7_ n8_ n9_ n10_ n11_ n12_; (try clear hb); (try clear hb2); (try clear hk); (try clear hi)))
         go_meet
         case rel => exact ⟨_, (true), (by first | rfl | (simp; done) | (simp [*]; done) | (simp [Go.IntWalk.i64_left]; done)), H', ⟨by have := HJ10.1; first | omega | exact Nat.le_refl _⟩, ⟨by (with_reducible repeat (first | apply Kd.R_alloc | apply Kd.R_drewN | apply Kd.R_drew)); exact Kd.R_mono Q443_0.1 (fun _ hk => ⟨hk.1, ⟨hk.2.1, ⟨hk.2.2.1, ⟨hk.2.2.2.1, hk.2.2.2.2.1⟩⟩⟩⟩)⟩, ⟨by (with_reducible repeat (first | apply Kd.R_alloc | apply Kd.R_drewN | apply Kd.R_drew)); exact Kd.R_mono Q443_1.1 (fun _ hk => ⟨hk.1, ⟨hk.2.1, ⟨hk.2.2.1, ⟨hk.2.2.2.1, hk.2.2.2.2.1⟩⟩⟩⟩)⟩, ⟨by (with_reducible repeat (first | apply Kd.R_alloc | apply Kd.R_drewN | apply Kd.R_drew)); exact Kd.R_mono Q450_0.1 (fun _ hk => ⟨hk.1.1.1, ⟨hk.1.1.2.1, ⟨hk.1.1.2.2.1, ⟨hk.1.1.2.2.2.1, hk.1.1.2.2.2.2⟩⟩⟩⟩)⟩, ⟨by (with_reducible repeat (first | apply Kd.R_alloc | apply Kd.R_drewN | apply Kd.R_drew)); exact Kd.R_mono Q450_1.1 (fun _ hk => ⟨hk.1.1.1, ⟨hk.1.1.2.1, ⟨hk.1.1.2.2.1, ⟨hk.1.1.2.2.2.1, hk.1.1.2.2.2.2⟩⟩⟩⟩)⟩, ⟨by (with_reducible repeat (first | apply Kd.R_alloc | apply Kd.R_drewN | apply Kd.R_drew)); exact Kd.R_mono Q458_0.1 (fun _ hk => ⟨hk.1, ⟨hk.2.1, ⟨hk.2.2.1, ⟨hk.2.2.2.1, hk.2.2.2.2.1⟩⟩⟩⟩)⟩, ⟨by (with_reducible repeat (first | apply Kd.R_alloc | apply Kd.R_drewN | apply Kd.R_drew)); exact Kd.R_mono Q458_1.1 (fun _ hk => ⟨hk.1, ⟨hk.2.1, ⟨hk.2.2.1, ⟨hk.2.2.2.1, hk.2.2.2.2.1⟩⟩⟩⟩)⟩, ⟨by (with_reducible repeat (first | refine blk_drewN ?_ _ | refine blk_drew ?_ | refine blk_alloc ?_ _)); exact BK427.1⟩, ⟨by (with_reducible repeat (first | refine blk_drewN ?_ _ | refine blk_drew ?_ | refine blk_alloc ?_ _)); exact BK442.1⟩, ⟨by (with_reducible repeat (first | refine blk_drewN ?_ _ | refine blk_drew ?_ | refine blk_alloc ?_ _)); exact BK449.1⟩, ⟨by (with_reducible repeat (first | refine blk_drewN ?_ _ | refine blk_drew ?_ | refine blk_alloc ?_ _)); exact BK457.1⟩, ⟨by repeat (first | (with_reducible first | exact HB.1 | apply below_alloc | apply pw_below_drewN | apply below_drew1 | refine below_set ?_ GE427.1 | refine below_set ?_ GE442.1 | refine below_set ?_ GE449.1 | refine below_set ?_ GE457.1) | exact HB.1)⟩⟩
      case rest =>
       clear HC64
       try clear c1
       try clear c2
       try clear p2
       try clear c3
       try clear c3b0
       try clear c4
       try clear c5
       try clear c6
       try clear c7
       try clear c8
       try clear c9
       try clear c12
       try clear c15
       try clear c17
       try clear c19
       try clear c22
       try clear c28
       try clear c29
       try clear c30
       try clear c36
       try clear c37
       try clear c38
       try clear c39
       try clear c42
       try clear c43
       try clear c44
       try clear c45
       try clear c47
       try clear c48
       try clear c51
       try clear c52
       try clear c53
       try clear c55
       try clear c56
       try clear c59
       try clear c62
       try clear c70
       try clear c71
       try clear c72
       try clear c75
       try clear c75b0
       try clear c77
       try clear c78
       try clear c79
       try clear c80
       try clear c82
       try clear c83
       try clear c86
       try clear c87
       try clear c88
       try clear c90
       try clear c91
       try clear hcz13_0
       try clear hcz13_1
       try clear hcz15_0
       try clear hcz15_1
       try clear hcz23_0
       try clear hcz23_1
       try clear hcz25_0
       try clear hcz25_1
       try clear hcz31_0
       try clear hcz31_1
       try clear hcz39_0
       try clear hcz39_1
       try clear hcz46_0
       try clear hcz46_1
       try clear hcz49_0
       try clear hcz49_1
       try clear hcz54_0
       try clear hcz54_1
       try clear hcz57_0
       try clear hcz57_1
       try clear hcz5_0
       try clear hcz5_1
       try clear hcz73_0
       try clear hcz73_1
       try clear hcz81_0
       try clear hcz81_1
       try clear hcz84_0
       try clear hcz84_1
       try clear hcz89_0
       try clear hcz89_1
       try clear hcz92_0
       try clear hcz92_1
       try clear hfz13_0
       try clear hfz13_1
       try clear hfz15_0
       try clear hfz15_1
       try clear hfz23_0
       try clear hfz23_1
       try clear hfz25_0
       try clear hfz25_1
       try clear hfz31_0
       try clear hfz31_1
       try clear hfz39_0
       try clear hfz39_1
       try clear hfz46_0
       try clear hfz46_1
       try clear hfz49_0
       try clear hfz49_1
       try clear hfz54_0
       try clear hfz54_1
       try clear hfz57_0
       try clear hfz57_1
       try clear hfz5_0
       try clear hfz5_1
       try clear hfz73_0
       try clear hfz73_1
       try clear hfz81_0
       try clear hfz81_1
       try clear hfz84_0
       try clear hfz84_1
       try clear hfz89_0
       try clear hfz89_1
       try clear hfz92_0
       try clear hfz92_1
       try clear p2
       obtain ⟨kq, x61_63, rfl, HA, HJ63, Q443_0, Q443_1, Q450_0, Q450_1, Q458_0, Q458_1, BK427, BK442, BK449, BK457, HB⟩ := hcut
       have hl450000_63 := (Kd.R_reads' Q450_0.1).1
       rw [hl450000_63] at Q450_0
       (try simp only [hl450000_63])
       (try simp only [hl450000_63] at BK427)
       (try simp only [hl450000_63] at BK442)
       (try simp only [hl450000_63] at BK449)
       (try simp only [hl450000_63] at BK457)
       (try simp only [hl450000_63] at Q443_0)
       (try simp only [hl450000_63] at Q443_1)
       (try simp only [hl450000_63] at Q450_1)
       (try simp only [hl450000_63] at Q458_0)
       (try simp only [hl450000_63] at Q458_1)
       have hl450001_63 := (Kd.R_reads' Q450_1.1).1
       rw [hl450001_63] at Q450_1
       (try simp only [hl450001_63])
       (try simp only [hl450001_63] at BK427)
       (try simp only [hl450001_63] at BK442)
       (try simp only [hl450001_63] at BK449)
       (try simp only [hl450001_63] at BK457)
       (try simp only [hl450001_63] at Q443_0)
       (try simp only [hl450001_63] at Q443_1)
       (try simp only [hl450001_63] at Q450_0)
       (try simp only [hl450001_63] at Q458_0)
       (try simp only [hl450001_63] at Q458_1)
       cases kq with
       | zero => exact absurd HA.1 (by simp [laws_FnExactLooseGloves.j1])
       | succ kj63 =>
        have H := HA.1
        clear HA
        simp only [laws_FnExactLooseGloves.j1] at H
        by_cases c94 : x61_63 = true
        ·subst c94
         have H1 : (some false) = some r := by rw [if_pos rfl] at H; exact H
         clear H
         have H := H1
         clear H1
         obtain rfl := Option.some.inj H
         go_wp2
         go_ret
         exact ⟨by first | rfl | (simp [errW_none, errW_some] <;> rfl) | (simp [Go.IntWalk.i64_left]; done) | (simp [*, errW_none, errW_some] <;> rfl), by repeat (first | (with_reducible first | exact HB.1 | apply below_alloc | apply pw_below_drewN | apply below_drew1 | refine below_set ?_ GE427.1 | refine below_set ?_ GE442.1 | refine below_set ?_ GE449.1 | refine below_set ?_ GE457.1) | exact HB.1)⟩
        ·replace c94 := Bool.eq_false_iff.mpr c94
         subst c94
         have H1 : ((laws_markGloves.f kj63 t450 t453 1).bind fun bt470 => ((laws_heldGloves.f kj63 bt470.2.1 bt470.2.2 1).bind fun t473 => (if t473 < 0 then (some false) else (if t473 = bt470.1 then ((laws_toGloves.f kj63 l0_0 l0_1).bind fun bt474 => ((impl_LooseGloves.f kj63 bt474.1 bt474.2).bind fun bt480 => ((laws_eqGloves.f kj63 bt480.1 bt480.2.1 t435 t438).bind fun t488 => (if t488 = true then (laws_FnExactLooseGloves.j2 kj63 bt470.1 (bt480.2.2 != t441) bt470.2.1 bt470.2.2) else (laws_FnExactLooseGloves.j2 kj63 bt470.1 true bt470.2.1 bt470.2.2))))) else (some false))))) = some r := by rw [if_neg (show ¬ (false = true) by decide)] at H; exact H
         clear H
         have H := H1
         clear H1
         replace H := Option.bind_eq_some_iff.mp H
         obtain ⟨⟨t470, t471, t472⟩, A950, H⟩ := H
         replace H : ((laws_heldGloves.f kj63 t471 t472 1).bind fun t473 => (if t473 < 0 then (some false) else (if t473 = t470 then ((laws_toGloves.f kj63 l0_0 l0_1).bind fun bt474 => ((impl_LooseGloves.f kj63 bt474.1 bt474.2).bind fun bt480 => ((laws_eqGloves.f kj63 bt480.1 bt480.2.1 t435 t438).bind fun t488 => (if t488 = true then (laws_FnExactLooseGloves.j2 kj63 t470 (bt480.2.2 != t441) t471 t472) else (laws_FnExactLooseGloves.j2 kj63 t470 true t471 t472))))) else (some false)))) = some r := H
         have A95 := Aside0.mk A950
         clear A950
         replace H := Option.bind_eq_some_iff.mp H
         obtain ⟨t473, A960, H⟩ := H
         replace H : (if t473 < 0 then (some false) else (if t473 = t470 then ((laws_toGloves.f kj63 l0_0 l0_1).bind fun bt474 => ((impl_LooseGloves.f kj63 bt474.1 bt474.2).bind fun bt480 => ((laws_eqGloves.f kj63 bt480.1 bt480.2.1 t435 t438).bind fun t488 => (if t488 = true then (laws_FnExactLooseGloves.j2 kj63 t470 (bt480.2.2 != t441) t471 t472) else (laws_FnExactLooseGloves.j2 kj63 t470 true t471 t472))))) else (some false))) = some r := H
         have A96 := Aside0.mk A960
         clear A960
         by_cases c97 : t473 < 0
         ·rw [if_pos c97] at H
          have c97b0 : decide (t473 < 0) = true := decide_eq_true c97
          clear c97
          obtain rfl := Option.some.inj H
          have hnb98 := NB457_427.1
          have hnc98 := NB427_457.1
          have hnb99 := NB457_442.1
          have hnc99 := NB442_457.1
          have hnb100 := NB457_449.1
          have hnc100 := NB449_457.1
          have hcz101_0 : wc.cell? ⟨gb457, 0, none⟩ = some (.slice Ao35 t450.length co35) := (blk_cell BK457.1 0).trans rfl
          have hcz101_1 : wc.cell? ⟨gb457, 1, none⟩ = some (.slice Ao40 t453.length co40) := (blk_cell BK457.1 1).trans rfl
          have hfz101_0 := blk_frozen BK457.1 0
          have hfz101_1 := blk_frozen BK457.1 1
          go_wp2_with (first | ((with_reducible refine gate_callee (f := 28) rfl ?_); refine goesL_ (some 64) rfl rfl Try.func28 (by kernel_rfl) rfl #[.agg #[.slice Ao35 t450.length co35, .slice Ao40 t453.length co40], .int .i64 1] rfl (by (try simp only [List.map_toArray, List.map_cons, List.map_nil]); first | done | rfl | (simp only [List.length_drop, List.length_take]; rfl)) ?_; (with_reducible refine (laws_markGloves.calls kj63 (fun k_ => some k_ = (.slice Ao35 t450.length co35 : Value).ownBlock) (.slice Ao35 t450.length co35) t450 (fun k_ => some k_ = (.slice Ao40 t453.length co40 : Value).ownBlock) (.slice Ao40 t453.length co40) t453 1 t470 t471 t472 w _ ?side1 ?side2 ?side3 ?side4 ?side5 A95.1).mono ?_); (case side1 => repeat (first | (with_reducible first | exact HB.1 | apply below_alloc | apply pw_below_drewN | apply below_drew1 | refine below_set ?_ GE427.1 | refine below_set ?_ GE442.1 | refine below_set ?_ GE449.1 | refine below_set ?_ GE457.1) | exact HB.1)); (case side2 => exact Kd.R_tight rfl Q458_0.1); (case side3 => exact fun k_ e_ => (Q458_0.1.1 k_ e_.symm).2.2.2.2); (case side4 => exact Kd.R_tight rfl Q458_1.1); (case side5 => exact fun k_ e_ => (Q458_1.1.1 k_ e_.symm).2.2.2.2); rintro e w102 ⟨rfl, hy0, hy1, hb, hkp⟩; refine ⟨_, rfl, ?_⟩; have n0_ := Aside0.mk (Kd.R_mono (ok' := fun k_ => some k_ ≠ (.slice Ao24 t438.length co24 : Value).ownBlock ∧ some k_ ≠ (.slice Ao28 t467.length co28 : Value).ownBlock ∧ some k_ ≠ (.slice Ao32 t468.length co32 : Value).ownBlock ∧ some k_ ≠ (.slice Ao35 t450.length co35 : Value).ownBlock ∧ some k_ ≠ (.slice Ao40 t453.length co40 : Value).ownBlock) (Kd.R_keptB (Q443_0.1) hkp (fun k_ hk_ hs_ => Or.elim hs_ (fun e_ => (hk_.2.2.2.1) e_) (fun e_ => (hk_.2.2.2.2) e_))) (fun k_ hk_ => ⟨hk_.1.1, hk_.1.2.1, hk_.1.2.2.1, hk_.1.2.2.2.1, hk_.1.2.2.2.2⟩)); have n1_ := Aside0.mk (Kd.R_mono (ok' := fun k_ => some k_ ≠ (.slice Ao21 t435.length co21 : Value).ownBlock ∧ some k_ ≠ (.slice Ao28 t467.length co28 : Value).ownBlock ∧ some k_ ≠ (.slice Ao32 t468.length co32 : Value).ownBlock ∧ some k_ ≠ (.slice Ao35 t450.length co35 : Value).ownBlock ∧ some k_ ≠ (.slice Ao40 t453.length co40 : Value).ownBlock) (Kd.R_keptB (Q443_1.1) hkp (fun k_ hk_ hs_ => Or.elim hs_ (fun e_ => (hk_.2.2.2.1) e_) (fun e_ => (hk_.2.2.2.2) e_))) (fun k_ hk_ => ⟨hk_.1.1, hk_.1.2.1, hk_.1.2.2.1, hk_.1.2.2.2.1, hk_.1.2.2.2.2⟩)); have n2_ := Aside0.mk (Kd.R_mono (ok' := fun k_ => some k_ ≠ (.slice Ao21 t435.length co21 : Value).ownBlock ∧ some k_ ≠ (.slice Ao24 t438.length co24 : Value).ownBlock ∧ some k_ ≠ (.slice Ao32 t468.length co32 : Value).ownBlock ∧ some k_ ≠ (.slice Ao35 t450.length co35 : Value).ownBlock ∧ some k_ ≠ (.slice Ao40 t453.length co40 : Value).ownBlock) (Kd.R_keptB (Q450_0.1) hkp (fun k_ hk_ hs_ => Or.elim hs_ (fun e_ => (hk_.2.2.2.1) e_) (fun e_ => (hk_.2.2.2.2) e_))) (fun k_ hk_ => ⟨hk_.1.1, hk_.1.2.1, hk_.1.2.2.1, hk_.1.2.2.2.1, hk_.1.2.2.2.2⟩)); have n3_ := Aside0.mk (Kd.R_mono (ok' := fun k_ => some k_ ≠ (.slice Ao21 t435.length co21 : Value).ownBlock ∧ some k_ ≠ (.slice Ao24 t438.length co24 : Value).ownBlock ∧ some k_ ≠ (.slice Ao28 t467.length co28 : Value).ownBlock ∧ some k_ ≠ (.slice Ao35 t450.length co35 : Value).ownBlock ∧ some k_ ≠ (.slice Ao40 t453.length co40 : Value).ownBlock) (Kd.R_keptB (Q450_1.1) hkp (fun k_ hk_ hs_ => Or.elim hs_ (fun e_ => (hk_.2.2.2.1) e_) (fun e_ => (hk_.2.2.2.2) e_))) (fun k_ hk_ => ⟨hk_.1.1, hk_.1.2.1, hk_.1.2.2.1, hk_.1.2.2.2.1, hk_.1.2.2.2.2⟩)); have n4_ := Aside0.mk (Kd.R_reok rfl hy0 (fun k_ e_ => Q458_0.1.1 k_ e_)); have n5_ := Aside0.mk (Kd.R_reok rfl hy1 (fun k_ e_ => Q458_1.1.1 k_ e_)); have n6_ := Aside0.mk (blk_kept (by (with_reducible repeat (first | refine blk_drewN ?_ _ | refine blk_drew ?_ | refine blk_alloc ?_ _)); exact BK427.1) hkp (fun hs_ => Or.elim hs_ (fun e_ => (fun e_ => (Kd.R_ne Q458_0.1 BK427.1 (by decide)) e_) e_) (fun e_ => (fun e_ => (Kd.R_ne Q458_1.1 BK427.1 (by decide)) e_) e_))); have n7_ := Aside0.mk (blk_kept (by (with_reducible repeat (first | refine blk_drewN ?_ _ | refine blk_drew ?_ | refine blk_alloc ?_ _)); exact BK442.1) hkp (fun hs_ => Or.elim hs_ (fun e_ => (fun e_ => (Kd.R_ne Q458_0.1 BK442.1 (by decide)) e_) e_) (fun e_ => (fun e_ => (Kd.R_ne Q458_1.1 BK442.1 (by decide)) e_) e_))); have n8_ := Aside0.mk (blk_kept (by (with_reducible repeat (first | refine blk_drewN ?_ _ | refine blk_drew ?_ | refine blk_alloc ?_ _)); exact BK449.1) hkp (fun hs_ => Or.elim hs_ (fun e_ => (fun e_ => (Kd.R_ne Q458_0.1 BK449.1 (by decide)) e_) e_) (fun e_ => (fun e_ => (Kd.R_ne Q458_1.1 BK449.1 (by decide)) e_) e_))); have n9_ := Aside0.mk (blk_kept (by (with_reducible repeat (first | refine blk_drewN ?_ _ | refine blk_drew ?_ | refine blk_alloc ?_ _)); exact BK457.1) hkp (fun hs_ => Or.elim hs_ (fun e_ => (fun e_ => (Kd.R_ne Q458_0.1 BK457.1 (by decide)) e_) e_) (fun e_ => (fun e_ => (Kd.R_ne Q458_1.1 BK457.1 (by decide)) e_) e_))); have n10_ := Aside0.mk (hb); clear Q443_0; clear Q443_1; clear Q450_0; clear Q450_1; clear Q458_0; clear Q458_1; clear BK427; clear BK442; clear BK449; clear BK457; clear HB; have Q443_0 := n0_; have Q443_1 := n1_; have Q450_0 := n2_; have Q450_1 := n3_; have Q458_0 := n4_; have Q458_1 := n5_; have BK427 := n6_; have BK442 := n7_; have BK449 := n8_; have BK457 := n9_; have HB := n10_; clear n0_ n1_ n2_ n3_ n4_ n5_ n6_ n7_ n8_ n9_ n10_; (try clear hb); (try clear hkp); (try clear hy0); (try clear hy1); have hcz103_0 : w102.cell? ⟨gb457, 0, none⟩ = some (.slice Ao35 t450.length co35) := (blk_cell BK457.1 0).trans rfl; have hcz103_1 : w102.cell? ⟨gb457, 1, none⟩ = some (.slice Ao40 t453.length co40) := (blk_cell BK457.1 1).trans rfl; have hfz103_0 := blk_frozen BK457.1 0; have hfz103_1 := blk_frozen BK457.1 1) | ((with_reducible refine gate_callee (f := 29) rfl ?_); refine goesL_ (some 67) rfl rfl Try.func29 (by kernel_rfl) rfl #[.agg #[.slice Ao35 t471.length co35, .slice Ao40 t472.length co40], .int .i64 1] rfl (by (try simp only [List.map_toArray, List.map_cons, List.map_nil]); first | done | (rw [show t471.length = t450.length from (Kd.R_reads' Q458_0.1).1.symm, show t472.length = t453.length from (Kd.R_reads' Q458_1.1).1.symm] <;> rfl) | rfl | (simp only [List.length_drop, List.length_take]; rfl)) ?_; (with_reducible refine (laws_heldGloves.calls kj63 _ _ t471 _ _ t472 1 t473 _ ?side1 ?side2 ?side3 ?side4 A96.1).mono ?_); (case side1 => repeat (first | exact (Kd.R_reads' Q458_0.1).2.2 | (with_reducible refine Kd.C_alloc ?_ _) | (with_reducible refine Kd.C_drewN ?_ _) | (with_reducible refine Kd.C_drew ?_))); (case side2 => rw [show t471.length = t450.length from (Kd.R_reads' Q458_0.1).1.symm]; exact (Kd.R_reads' Q458_0.1).2.1); (case side3 => repeat (first | exact (Kd.R_reads' Q458_1.1).2.2 | (with_reducible refine Kd.C_alloc ?_ _) | (with_reducible refine Kd.C_drewN ?_ _) | (with_reducible refine Kd.C_drew ?_))); (case side4 => rw [show t472.length = t453.length from (Kd.R_reads' Q458_1.1).1.symm]; exact (Kd.R_reads' Q458_1.1).2.1); rintro e w104 ⟨rfl, hb⟩; refine ⟨_, rfl, ?_⟩; have n0_ := Aside0.mk (Kd.R_below (by (with_reducible repeat (first | apply Kd.R_alloc | apply Kd.R_drewN | apply Kd.R_drew)); exact Q443_0.1) hb); have n1_ := Aside0.mk (Kd.R_below (by (with_reducible repeat (first | apply Kd.R_alloc | apply Kd.R_drewN | apply Kd.R_drew)); exact Q443_1.1) hb); have n2_ := Aside0.mk (Kd.R_below (by (with_reducible repeat (first | apply Kd.R_alloc | apply Kd.R_drewN | apply Kd.R_drew)); exact Q450_0.1) hb); have n3_ := Aside0.mk (Kd.R_below (by (with_reducible repeat (first | apply Kd.R_alloc | apply Kd.R_drewN | apply Kd.R_drew)); exact Q450_1.1) hb); have n4_ := Aside0.mk (Kd.R_below (by (with_reducible repeat (first | apply Kd.R_alloc | apply Kd.R_drewN | apply Kd.R_drew)); exact Q458_0.1) hb); have n5_ := Aside0.mk (Kd.R_below (by (with_reducible repeat (first | apply Kd.R_alloc | apply Kd.R_drewN | apply Kd.R_drew)); exact Q458_1.1) hb); have n6_ := Aside0.mk (blk_below (g := gb427) (o := .cells #[.slice A0_0 l0_0.length c0_0, .slice A0_1 l0_1.length c0_1] 24 (0, 0)) (by (with_reducible repeat (first | refine blk_drewN ?_ _ | refine blk_drew ?_ | refine blk_alloc ?_ _)); exact BK427.1) hb); have n7_ := Aside0.mk (blk_below (g := gb442) (o := .cells #[.slice Ao21 t435.length co21, .slice Ao24 t438.length co24] 28 (0, 0)) (by (with_reducible repeat (first | refine blk_drewN ?_ _ | refine blk_drew ?_ | refine blk_alloc ?_ _)); exact BK442.1) hb); have n8_ := Aside0.mk (blk_below (g := gb449) (o := .cells #[.slice Ao28 t467.length co28, .slice Ao32 t468.length co32] 28 (0, 0)) (by (with_reducible repeat (first | refine blk_drewN ?_ _ | refine blk_drew ?_ | refine blk_alloc ?_ _)); exact BK449.1) hb); have n9_ := Aside0.mk (blk_below (g := gb457) (o := .cells #[.slice Ao35 t450.length co35, .slice Ao40 t453.length co40] 28 (0, 0)) (by (with_reducible repeat (first | refine blk_drewN ?_ _ | refine blk_drew ?_ | refine blk_alloc ?_ _)); exact BK457.1) hb); have n10_ := Aside0.mk (below_step (by repeat (first | (with_reducible first | exact HB.1 | apply below_alloc | apply pw_below_drewN | apply below_drew1 | refine below_set ?_ GE427.1 | refine below_set ?_ GE442.1 | refine below_set ?_ GE449.1 | refine below_set ?_ GE457.1) | exact HB.1)) hb); clear Q443_0; clear Q443_1; clear Q450_0; clear Q450_1; clear Q458_0; clear Q458_1; clear BK427; clear BK442; clear BK449; clear BK457; clear HB; have Q443_0 := n0_; have Q443_1 := n1_; have Q450_0 := n2_; have Q450_1 := n3_; have Q458_0 := n4_; have Q458_1 := n5_; have BK427 := n6_; have BK442 := n7_; have BK449 := n8_; have BK457 := n9_; have HB := n10_; clear n0_ n1_ n2_ n3_ n4_ n5_ n6_ n7_ n8_ n9_ n10_; (try clear hb); (try clear hb2); (try clear hk); (try clear hi)))
          go_ret
          exact ⟨by first | rfl | (simp [errW_none, errW_some] <;> rfl) | (simp [Go.IntWalk.i64_left]; done) | (simp [*, errW_none, errW_some] <;> rfl), by repeat (first | (with_reducible first | exact HB.1 | apply below_alloc | apply pw_below_drewN | apply below_drew1 | refine below_set ?_ GE427.1 | refine below_set ?_ GE442.1 | refine below_set ?_ GE449.1 | refine below_set ?_ GE457.1) | exact HB.1)⟩
         ·rw [if_neg c97] at H
          have c97b0 : decide (t473 < 0) = false := decide_eq_false c97
          clear c97
          by_cases c105 : t473 = t470
          ·rw [if_pos c105] at H
           have c105b0 : (t473 == t470) = true := beq_iff_eq.mpr c105
           have c105b1 : (t473 != t470) = false := bne_eq_false_iff_eq.mpr c105
           clear c105
           replace H := Option.bind_eq_some_iff.mp H
           obtain ⟨⟨t474, t477⟩, A1060, H⟩ := H
           replace H : ((impl_LooseGloves.f kj63 t474 t477).bind fun bt480 => ((laws_eqGloves.f kj63 bt480.1 bt480.2.1 t435 t438).bind fun t488 => (if t488 = true then (laws_FnExactLooseGloves.j2 kj63 t470 (bt480.2.2 != t441) t471 t472) else (laws_FnExactLooseGloves.j2 kj63 t470 true t471 t472)))) = some r := H
           have A106 := Aside0.mk A1060
           clear A1060
           replace H := Option.bind_eq_some_iff.mp H
           obtain ⟨⟨t480, t483, t486⟩, A1070, H⟩ := H
           replace H : ((laws_eqGloves.f kj63 t480 t483 t435 t438).bind fun t488 => (if t488 = true then (laws_FnExactLooseGloves.j2 kj63 t470 (t486 != t441) t471 t472) else (laws_FnExactLooseGloves.j2 kj63 t470 true t471 t472))) = some r := H
           have A107 := Aside0.mk A1070
           clear A1070
           have HC108 := Aside0.mk H
           clear H
           have hnb109 := NB457_427.1
           have hnc109 := NB427_457.1
           have hnb110 := NB457_442.1
           have hnc110 := NB442_457.1
           have hnb111 := NB457_449.1
           have hnc111 := NB449_457.1
           have hcz112_0 : wc.cell? ⟨gb457, 0, none⟩ = some (.slice Ao35 t450.length co35) := (blk_cell BK457.1 0).trans rfl
           have hcz112_1 : wc.cell? ⟨gb457, 1, none⟩ = some (.slice Ao40 t453.length co40) := (blk_cell BK457.1 1).trans rfl
           have hfz112_0 := blk_frozen BK457.1 0
           have hfz112_1 := blk_frozen BK457.1 1
           go_upto_region 25 with (first | ((with_reducible refine gate_callee (f := 28) rfl ?_); refine goesL_ (some 64) rfl rfl Try.func28 (by kernel_rfl) rfl #[.agg #[.slice Ao35 t450.length co35, .slice Ao40 t453.length co40], .int .i64 1] rfl (by (try simp only [List.map_toArray, List.map_cons, List.map_nil]); first | done | rfl | (simp only [List.length_drop, List.length_take]; rfl)) ?_; (with_reducible refine (laws_markGloves.calls kj63 (fun k_ => some k_ = (.slice Ao35 t450.length co35 : Value).ownBlock) (.slice Ao35 t450.length co35) t450 (fun k_ => some k_ = (.slice Ao40 t453.length co40 : Value).ownBlock) (.slice Ao40 t453.length co40) t453 1 t470 t471 t472 w _ ?side1 ?side2 ?side3 ?side4 ?side5 A95.1).mono ?_); (case side1 => repeat (first | (with_reducible first | exact HB.1 | apply below_alloc | apply pw_below_drewN | apply below_drew1 | refine below_set ?_ GE427.1 | refine below_set ?_ GE442.1 | refine below_set ?_ GE449.1 | refine below_set ?_ GE457.1) | exact HB.1)); (case side2 => exact Kd.R_tight rfl Q458_0.1); (case side3 => exact fun k_ e_ => (Q458_0.1.1 k_ e_.symm).2.2.2.2); (case side4 => exact Kd.R_tight rfl Q458_1.1); (case side5 => exact fun k_ e_ => (Q458_1.1.1 k_ e_.symm).2.2.2.2); rintro e w113 ⟨rfl, hy0, hy1, hb, hkp⟩; refine ⟨_, rfl, ?_⟩; have n0_ := Aside0.mk (Kd.R_mono (ok' := fun k_ => some k_ ≠ (.slice Ao24 t438.length co24 : Value).ownBlock ∧ some k_ ≠ (.slice Ao28 t467.length co28 : Value).ownBlock ∧ some k_ ≠ (.slice Ao32 t468.length co32 : Value).ownBlock ∧ some k_ ≠ (.slice Ao35 t450.length co35 : Value).ownBlock ∧ some k_ ≠ (.slice Ao40 t453.length co40 : Value).ownBlock) (Kd.R_keptB (Q443_0.1) hkp (fun k_ hk_ hs_ => Or.elim hs_ (fun e_ => (hk_.2.2.2.1) e_) (fun e_ => (hk_.2.2.2.2) e_))) (fun k_ hk_ => ⟨hk_.1.1, hk_.1.2.1, hk_.1.2.2.1, hk_.1.2.2.2.1, hk_.1.2.2.2.2⟩)); have n1_ := Aside0.mk (Kd.R_mono (ok' := fun k_ => some k_ ≠ (.slice Ao21 t435.length co21 : Value).ownBlock ∧ some k_ ≠ (.slice Ao28 t467.length co28 : Value).ownBlock ∧ some k_ ≠ (.slice Ao32 t468.length co32 : Value).ownBlock ∧ some k_ ≠ (.slice Ao35 t450.length co35 : Value).ownBlock ∧ some k_ ≠ (.slice Ao40 t453.length co40 : Value).ownBlock) (Kd.R_keptB (Q443_1.1) hkp (fun k_ hk_ hs_ => Or.elim hs_ (fun e_ => (hk_.2.2.2.1) e_) (fun e_ => (hk_.2.2.2.2) e_))) (fun k_ hk_ => ⟨hk_.1.1, hk_.1.2.1, hk_.1.2.2.1, hk_.1.2.2.2.1, hk_.1.2.2.2.2⟩)); have n2_ := Aside0.mk (Kd.R_mono (ok' := fun k_ => some k_ ≠ (.slice Ao21 t435.length co21 : Value).ownBlock ∧ some k_ ≠ (.slice Ao24 t438.length co24 : Value).ownBlock ∧ some k_ ≠ (.slice Ao32 t468.length co32 : Value).ownBlock ∧ some k_ ≠ (.slice Ao35 t450.length co35 : Value).ownBlock ∧ some k_ ≠ (.slice Ao40 t453.length co40 : Value).ownBlock) (Kd.R_keptB (Q450_0.1) hkp (fun k_ hk_ hs_ => Or.elim hs_ (fun e_ => (hk_.2.2.2.1) e_) (fun e_ => (hk_.2.2.2.2) e_))) (fun k_ hk_ => ⟨hk_.1.1, hk_.1.2.1, hk_.1.2.2.1, hk_.1.2.2.2.1, hk_.1.2.2.2.2⟩)); have n3_ := Aside0.mk (Kd.R_mono (ok' := fun k_ => some k_ ≠ (.slice Ao21 t435.length co21 : Value).ownBlock ∧ some k_ ≠ (.slice Ao24 t438.length co24 : Value).ownBlock ∧ some k_ ≠ (.slice Ao28 t467.length co28 : Value).ownBlock ∧ some k_ ≠ (.slice Ao35 t450.length co35 : Value).ownBlock ∧ some k_ ≠ (.slice Ao40 t453.length co40 : Value).ownBlock) (Kd.R_keptB (Q450_1.1) hkp (fun k_ hk_ hs_ => Or.elim hs_ (fun e_ => (hk_.2.2.2.1) e_) (fun e_ => (hk_.2.2.2.2) e_))) (fun k_ hk_ => ⟨hk_.1.1, hk_.1.2.1, hk_.1.2.2.1, hk_.1.2.2.2.1, hk_.1.2.2.2.2⟩)); have n4_ := Aside0.mk (Kd.R_reok rfl hy0 (fun k_ e_ => Q458_0.1.1 k_ e_)); have n5_ := Aside0.mk (Kd.R_reok rfl hy1 (fun k_ e_ => Q458_1.1.1 k_ e_)); have n6_ := Aside0.mk (blk_kept (by (with_reducible repeat (first | refine blk_drewN ?_ _ | refine blk_drew ?_ | refine blk_alloc ?_ _)); exact BK427.1) hkp (fun hs_ => Or.elim hs_ (fun e_ => (fun e_ => (Kd.R_ne Q458_0.1 BK427.1 (by decide)) e_) e_) (fun e_ => (fun e_ => (Kd.R_ne Q458_1.1 BK427.1 (by decide)) e_) e_))); have n7_ := Aside0.mk (blk_kept (by (with_reducible repeat (first | refine blk_drewN ?_ _ | refine blk_drew ?_ | refine blk_alloc ?_ _)); exact BK442.1) hkp (fun hs_ => Or.elim hs_ (fun e_ => (fun e_ => (Kd.R_ne Q458_0.1 BK442.1 (by decide)) e_) e_) (fun e_ => (fun e_ => (Kd.R_ne Q458_1.1 BK442.1 (by decide)) e_) e_))); have n8_ := Aside0.mk (blk_kept (by (with_reducible repeat (first | refine blk_drewN ?_ _ | refine blk_drew ?_ | refine blk_alloc ?_ _)); exact BK449.1) hkp (fun hs_ => Or.elim hs_ (fun e_ => (fun e_ => (Kd.R_ne Q458_0.1 BK449.1 (by decide)) e_) e_) (fun e_ => (fun e_ => (Kd.R_ne Q458_1.1 BK449.1 (by decide)) e_) e_))); have n9_ := Aside0.mk (blk_kept (by (with_reducible repeat (first | refine blk_drewN ?_ _ | refine blk_drew ?_ | refine blk_alloc ?_ _)); exact BK457.1) hkp (fun hs_ => Or.elim hs_ (fun e_ => (fun e_ => (Kd.R_ne Q458_0.1 BK457.1 (by decide)) e_) e_) (fun e_ => (fun e_ => (Kd.R_ne Q458_1.1 BK457.1 (by decide)) e_) e_))); have n10_ := Aside0.mk (hb); clear Q443_0; clear Q443_1; clear Q450_0; clear Q450_1; clear Q458_0; clear Q458_1; clear BK427; clear BK442; clear BK449; clear BK457; clear HB; have Q443_0 := n0_; have Q443_1 := n1_; have Q450_0 := n2_; have Q450_1 := n3_; have Q458_0 := n4_; have Q458_1 := n5_; have BK427 := n6_; have BK442 := n7_; have BK449 := n8_; have BK457 := n9_; have HB := n10_; clear n0_ n1_ n2_ n3_ n4_ n5_ n6_ n7_ n8_ n9_ n10_; (try clear hb); (try clear hkp); (try clear hy0); (try clear hy1); have hcz114_0 : w113.cell? ⟨gb457, 0, none⟩ = some (.slice Ao35 t450.length co35) := (blk_cell BK457.1 0).trans rfl; have hcz114_1 : w113.cell? ⟨gb457, 1, none⟩ = some (.slice Ao40 t453.length co40) := (blk_cell BK457.1 1).trans rfl; have hfz114_0 := blk_frozen BK457.1 0; have hfz114_1 := blk_frozen BK457.1 1) | ((with_reducible refine gate_callee (f := 29) rfl ?_); refine goesL_ (some 67) rfl rfl Try.func29 (by kernel_rfl) rfl #[.agg #[.slice Ao35 t471.length co35, .slice Ao40 t472.length co40], .int .i64 1] rfl (by (try simp only [List.map_toArray, List.map_cons, List.map_nil]); first | done | (rw [show t471.length = t450.length from (Kd.R_reads' Q458_0.1).1.symm, show t472.length = t453.length from (Kd.R_reads' Q458_1.1).1.symm] <;> rfl) | rfl | (simp only [List.length_drop, List.length_take]; rfl)) ?_; (with_reducible refine (laws_heldGloves.calls kj63 _ _ t471 _ _ t472 1 t473 _ ?side1 ?side2 ?side3 ?side4 A96.1).mono ?_); (case side1 => repeat (first | exact (Kd.R_reads' Q458_0.1).2.2 | (with_reducible refine Kd.C_alloc ?_ _) | (with_reducible refine Kd.C_drewN ?_ _) | (with_reducible refine Kd.C_drew ?_))); (case side2 => rw [show t471.length = t450.length from (Kd.R_reads' Q458_0.1).1.symm]; exact (Kd.R_reads' Q458_0.1).2.1); (case side3 => repeat (first | exact (Kd.R_reads' Q458_1.1).2.2 | (with_reducible refine Kd.C_alloc ?_ _) | (with_reducible refine Kd.C_drewN ?_ _) | (with_reducible refine Kd.C_drew ?_))); (case side4 => rw [show t472.length = t453.length from (Kd.R_reads' Q458_1.1).1.symm]; exact (Kd.R_reads' Q458_1.1).2.1); rintro e w115 ⟨rfl, hb⟩; refine ⟨_, rfl, ?_⟩; have n0_ := Aside0.mk (Kd.R_below (by (with_reducible repeat (first | apply Kd.R_alloc | apply Kd.R_drewN | apply Kd.R_drew)); exact Q443_0.1) hb); have n1_ := Aside0.mk (Kd.R_below (by (with_reducible repeat (first | apply Kd.R_alloc | apply Kd.R_drewN | apply Kd.R_drew)); exact Q443_1.1) hb); have n2_ := Aside0.mk (Kd.R_below (by (with_reducible repeat (first | apply Kd.R_alloc | apply Kd.R_drewN | apply Kd.R_drew)); exact Q450_0.1) hb); have n3_ := Aside0.mk (Kd.R_below (by (with_reducible repeat (first | apply Kd.R_alloc | apply Kd.R_drewN | apply Kd.R_drew)); exact Q450_1.1) hb); have n4_ := Aside0.mk (Kd.R_below (by (with_reducible repeat (first | apply Kd.R_alloc | apply Kd.R_drewN | apply Kd.R_drew)); exact Q458_0.1) hb); have n5_ := Aside0.mk (Kd.R_below (by (with_reducible repeat (first | apply Kd.R_alloc | apply Kd.R_drewN | apply Kd.R_drew)); exact Q458_1.1) hb); have n6_ := Aside0.mk (blk_below (g := gb427) (o := .cells #[.slice A0_0 l0_0.length c0_0, .slice A0_1 l0_1.length c0_1] 24 (0, 0)) (by (with_reducible repeat (first | refine blk_drewN ?_ _ | refine blk_drew ?_ | refine blk_alloc ?_ _)); exact BK427.1) hb); have n7_ := Aside0.mk (blk_below (g := gb442) (o := .cells #[.slice Ao21 t435.length co21, .slice Ao24 t438.length co24] 28 (0, 0)) (by (with_reducible repeat (first | refine blk_drewN ?_ _ | refine blk_drew ?_ | refine blk_alloc ?_ _)); exact BK442.1) hb); have n8_ := Aside0.mk (blk_below (g := gb449) (o := .cells #[.slice Ao28 t467.length co28, .slice Ao32 t468.length co32] 28 (0, 0)) (by (with_reducible repeat (first | refine blk_drewN ?_ _ | refine blk_drew ?_ | refine blk_alloc ?_ _)); exact BK449.1) hb); have n9_ := Aside0.mk (blk_below (g := gb457) (o := .cells #[.slice Ao35 t450.length co35, .slice Ao40 t453.length co40] 28 (0, 0)) (by (with_reducible repeat (first | refine blk_drewN ?_ _ | refine blk_drew ?_ | refine blk_alloc ?_ _)); exact BK457.1) hb); have n10_ := Aside0.mk (below_step (by repeat (first | (with_reducible first | exact HB.1 | apply below_alloc | apply pw_below_drewN | apply below_drew1 | refine below_set ?_ GE427.1 | refine below_set ?_ GE442.1 | refine below_set ?_ GE449.1 | refine below_set ?_ GE457.1) | exact HB.1)) hb); clear Q443_0; clear Q443_1; clear Q450_0; clear Q450_1; clear Q458_0; clear Q458_1; clear BK427; clear BK442; clear BK449; clear BK457; clear HB; have Q443_0 := n0_; have Q443_1 := n1_; have Q450_0 := n2_; have Q450_1 := n3_; have Q458_0 := n4_; have Q458_1 := n5_; have BK427 := n6_; have BK442 := n7_; have BK449 := n8_; have BK457 := n9_; have HB := n10_; clear n0_ n1_ n2_ n3_ n4_ n5_ n6_ n7_ n8_ n9_ n10_; (try clear hb); (try clear hb2); (try clear hk); (try clear hi); have hnb116 := NB427_442.1; have hnc116 := NB442_427.1; have hnb117 := NB427_449.1; have hnc117 := NB449_427.1; have hcz118_0 : w115.cell? ⟨gb427, 0, none⟩ = some (.slice A0_0 l0_0.length c0_0) := (blk_cell BK427.1 0).trans rfl; have hcz118_1 : w115.cell? ⟨gb427, 1, none⟩ = some (.slice A0_1 l0_1.length c0_1) := (blk_cell BK427.1 1).trans rfl; have hfz118_0 := blk_frozen BK427.1 0; have hfz118_1 := blk_frozen BK427.1 1) | ((with_reducible refine gate_callee (f := 17) rfl ?_); refine goesL_ (some 75) rfl rfl Try.func17 (by kernel_rfl) rfl #[.agg #[.slice A0_0 l0_0.length c0_0, .slice A0_1 l0_1.length c0_1]] rfl (by (try simp only [List.map_toArray, List.map_cons, List.map_nil]); first | done | rfl | (simp only [List.length_drop, List.length_take]; rfl)) ?_; (with_reducible refine (laws_toGloves.calls kj63 _ _ l0_0 _ _ l0_1 t474 t477 _ ?side1 ?side2 ?side3 ?side4 A106.1).mono ?_); (case side1 => repeat (first | exact (Kd.C_below HR0_0.1 HB.1) | (with_reducible refine Kd.C_alloc ?_ _) | (with_reducible refine Kd.C_drewN ?_ _) | (with_reducible refine Kd.C_drew ?_))); (case side2 => exact HC0_0.1); (case side3 => repeat (first | exact (Kd.C_below HR0_1.1 HB.1) | (with_reducible refine Kd.C_alloc ?_ _) | (with_reducible refine Kd.C_drewN ?_ _) | (with_reducible refine Kd.C_drew ?_))); (case side4 => exact HC0_1.1); rintro e w119 ⟨v475, v478, rfl, ho0, ho1, hb⟩; refine ⟨_, rfl, ?_⟩; have n0_ := Aside0.mk (Kd.R_mono (Kd.R_told (Kd.R_told (Kd.R_old (by (with_reducible repeat (first | apply Kd.R_alloc | apply Kd.R_drewN | apply Kd.R_drew)); exact Q443_0.1) hb) (Kd.R_base ho0)) (Kd.R_base ho1)) (fun _ h_ => h_.1)); have n1_ := Aside0.mk (Kd.R_mono (Kd.R_told (Kd.R_told (Kd.R_old (by (with_reducible repeat (first | apply Kd.R_alloc | apply Kd.R_drewN | apply Kd.R_drew)); exact Q443_1.1) hb) (Kd.R_base ho0)) (Kd.R_base ho1)) (fun _ h_ => h_.1)); have n2_ := Aside0.mk (Kd.R_mono (Kd.R_told (Kd.R_told (Kd.R_old (by (with_reducible repeat (first | apply Kd.R_alloc | apply Kd.R_drewN | apply Kd.R_drew)); exact Q450_0.1) hb) (Kd.R_base ho0)) (Kd.R_base ho1)) (fun _ h_ => h_.1)); have n3_ := Aside0.mk (Kd.R_mono (Kd.R_told (Kd.R_told (Kd.R_old (by (with_reducible repeat (first | apply Kd.R_alloc | apply Kd.R_drewN | apply Kd.R_drew)); exact Q450_1.1) hb) (Kd.R_base ho0)) (Kd.R_base ho1)) (fun _ h_ => h_.1)); have n4_ := Aside0.mk (Kd.R_mono (Kd.R_told (Kd.R_told (Kd.R_old (by (with_reducible repeat (first | apply Kd.R_alloc | apply Kd.R_drewN | apply Kd.R_drew)); exact Q458_0.1) hb) (Kd.R_base ho0)) (Kd.R_base ho1)) (fun _ h_ => h_.1)); have n5_ := Aside0.mk (Kd.R_mono (Kd.R_told (Kd.R_told (Kd.R_old (by (with_reducible repeat (first | apply Kd.R_alloc | apply Kd.R_drewN | apply Kd.R_drew)); exact Q458_1.1) hb) (Kd.R_base ho0)) (Kd.R_base ho1)) (fun _ h_ => h_.1)); have n6_ := Aside0.mk (Kd.R_lower (Kd.R_new' (Kd.R_new' (Kd.R_new' (Kd.R_new' (Kd.R_new' (Kd.R_new' ho0 (Kd.R_lt (by (with_reducible repeat (first | apply Kd.R_alloc | apply Kd.R_drewN | apply Kd.R_drew)); exact Q443_0.1))) (Kd.R_lt (by (with_reducible repeat (first | apply Kd.R_alloc | apply Kd.R_drewN | apply Kd.R_drew)); exact Q443_1.1))) (Kd.R_lt (by (with_reducible repeat (first | apply Kd.R_alloc | apply Kd.R_drewN | apply Kd.R_drew)); exact Q450_0.1))) (Kd.R_lt (by (with_reducible repeat (first | apply Kd.R_alloc | apply Kd.R_drewN | apply Kd.R_drew)); exact Q450_1.1))) (Kd.R_lt (by (with_reducible repeat (first | apply Kd.R_alloc | apply Kd.R_drewN | apply Kd.R_drew)); exact Q458_0.1))) (Kd.R_lt (by (with_reducible repeat (first | apply Kd.R_alloc | apply Kd.R_drewN | apply Kd.R_drew)); exact Q458_1.1))) (below_size (by repeat (first | (with_reducible first | exact HB.1 | apply below_alloc | apply pw_below_drewN | apply below_drew1 | refine below_set ?_ GE427.1 | refine below_set ?_ GE442.1 | refine below_set ?_ GE449.1 | refine below_set ?_ GE457.1) | exact HB.1)))); have n7_ := Aside0.mk (Kd.R_lower (Kd.R_new' (Kd.R_new' (Kd.R_new' (Kd.R_new' (Kd.R_new' (Kd.R_new' ho1 (Kd.R_lt (by (with_reducible repeat (first | apply Kd.R_alloc | apply Kd.R_drewN | apply Kd.R_drew)); exact Q443_0.1))) (Kd.R_lt (by (with_reducible repeat (first | apply Kd.R_alloc | apply Kd.R_drewN | apply Kd.R_drew)); exact Q443_1.1))) (Kd.R_lt (by (with_reducible repeat (first | apply Kd.R_alloc | apply Kd.R_drewN | apply Kd.R_drew)); exact Q450_0.1))) (Kd.R_lt (by (with_reducible repeat (first | apply Kd.R_alloc | apply Kd.R_drewN | apply Kd.R_drew)); exact Q450_1.1))) (Kd.R_lt (by (with_reducible repeat (first | apply Kd.R_alloc | apply Kd.R_drewN | apply Kd.R_drew)); exact Q458_0.1))) (Kd.R_lt (by (with_reducible repeat (first | apply Kd.R_alloc | apply Kd.R_drewN | apply Kd.R_drew)); exact Q458_1.1))) (below_size (by repeat (first | (with_reducible first | exact HB.1 | apply below_alloc | apply pw_below_drewN | apply below_drew1 | refine below_set ?_ GE427.1 | refine below_set ?_ GE442.1 | refine below_set ?_ GE449.1 | refine below_set ?_ GE457.1) | exact HB.1)))); have n8_ := Aside0.mk (blk_below (g := gb427) (o := .cells #[.slice A0_0 l0_0.length c0_0, .slice A0_1 l0_1.length c0_1] 24 (0, 0)) (by (with_reducible repeat (first | refine blk_drewN ?_ _ | refine blk_drew ?_ | refine blk_alloc ?_ _)); exact BK427.1) hb); have n9_ := Aside0.mk (blk_below (g := gb442) (o := .cells #[.slice Ao21 t435.length co21, .slice Ao24 t438.length co24] 28 (0, 0)) (by (with_reducible repeat (first | refine blk_drewN ?_ _ | refine blk_drew ?_ | refine blk_alloc ?_ _)); exact BK442.1) hb); have n10_ := Aside0.mk (blk_below (g := gb449) (o := .cells #[.slice Ao28 t467.length co28, .slice Ao32 t468.length co32] 28 (0, 0)) (by (with_reducible repeat (first | refine blk_drewN ?_ _ | refine blk_drew ?_ | refine blk_alloc ?_ _)); exact BK449.1) hb); have n11_ := Aside0.mk (blk_below (g := gb457) (o := .cells #[.slice Ao35 t450.length co35, .slice Ao40 t453.length co40] 28 (0, 0)) (by (with_reducible repeat (first | refine blk_drewN ?_ _ | refine blk_drew ?_ | refine blk_alloc ?_ _)); exact BK457.1) hb); have n12_ := Aside0.mk (below_step (by repeat (first | (with_reducible first | exact HB.1 | apply below_alloc | apply pw_below_drewN | apply below_drew1 | refine below_set ?_ GE427.1 | refine below_set ?_ GE442.1 | refine below_set ?_ GE449.1 | refine below_set ?_ GE457.1) | exact HB.1)) hb); clear Q443_0; clear Q443_1; clear Q450_0; clear Q450_1; clear Q458_0; clear Q458_1; clear BK427; clear BK442; clear BK449; clear BK457; clear HB; have Q443_0 := n0_; have Q443_1 := n1_; have Q450_0 := n2_; have Q450_1 := n3_; have Q458_0 := n4_; have Q458_1 := n5_; have HO476 := n6_; have HO479 := n7_; have BK427 := n8_; have BK442 := n9_; have BK449 := n10_; have BK457 := n11_; have HB := n12_; clear n0_ n1_ n2_ n3_ n4_ n5_ n6_ n7_ n8_ n9_ n10_ n11_ n12_; (try clear hb); (try clear hb2); (try clear hk); (try clear hi); (try clear ho0); (try clear ho1); obtain ⟨Ao120, co120, eo120⟩ := Kd.R_slice HO476.1; subst eo120; obtain ⟨Ao121, co121, eo121⟩ := Kd.R_slice HO479.1; subst eo121) | ((with_reducible refine gate_callee (f := 39) rfl ?_); refine goesL_ (some 76) rfl rfl Try.func39 (by kernel_rfl) rfl #[.agg #[.slice Ao120 t474.length co120, .slice Ao121 t477.length co121]] rfl (by (try simp only [List.map_toArray, List.map_cons, List.map_nil]); first | done | rfl | (simp only [List.length_drop, List.length_take]; rfl)) ?_; (with_reducible refine (impl_LooseGloves.calls kj63 _ _ t474 _ _ t477 t480 t483 t486 _ ?side1 ?side2 ?side3 ?side4 A107.1).mono ?_); (case side1 => repeat (first | exact (Kd.R_reads' HO476.1).2.2 | (with_reducible refine Kd.C_alloc ?_ _) | (with_reducible refine Kd.C_drewN ?_ _) | (with_reducible refine Kd.C_drew ?_))); (case side2 => exact (Kd.R_reads' HO476.1).2.1); (case side3 => repeat (first | exact (Kd.R_reads' HO479.1).2.2 | (with_reducible refine Kd.C_alloc ?_ _) | (with_reducible refine Kd.C_drewN ?_ _) | (with_reducible refine Kd.C_drew ?_))); (case side4 => exact (Kd.R_reads' HO479.1).2.1); rintro e w122 ⟨v481, v484, rfl, ho0, ho1, hb⟩; refine ⟨_, rfl, ?_⟩; have n0_ := Aside0.mk (Kd.R_mono (Kd.R_told (Kd.R_told (Kd.R_old (by (with_reducible repeat (first | apply Kd.R_alloc | apply Kd.R_drewN | apply Kd.R_drew)); exact Q443_0.1) hb) (Kd.R_base ho0)) (Kd.R_base ho1)) (fun _ h_ => h_.1)); have n1_ := Aside0.mk (Kd.R_mono (Kd.R_told (Kd.R_told (Kd.R_old (by (with_reducible repeat (first | apply Kd.R_alloc | apply Kd.R_drewN | apply Kd.R_drew)); exact Q443_1.1) hb) (Kd.R_base ho0)) (Kd.R_base ho1)) (fun _ h_ => h_.1)); have n2_ := Aside0.mk (Kd.R_mono (Kd.R_told (Kd.R_told (Kd.R_old (by (with_reducible repeat (first | apply Kd.R_alloc | apply Kd.R_drewN | apply Kd.R_drew)); exact Q450_0.1) hb) (Kd.R_base ho0)) (Kd.R_base ho1)) (fun _ h_ => h_.1)); have n3_ := Aside0.mk (Kd.R_mono (Kd.R_told (Kd.R_told (Kd.R_old (by (with_reducible repeat (first | apply Kd.R_alloc | apply Kd.R_drewN | apply Kd.R_drew)); exact Q450_1.1) hb) (Kd.R_base ho0)) (Kd.R_base ho1)) (fun _ h_ => h_.1)); have n4_ := Aside0.mk (Kd.R_mono (Kd.R_told (Kd.R_told (Kd.R_old (by (with_reducible repeat (first | apply Kd.R_alloc | apply Kd.R_drewN | apply Kd.R_drew)); exact Q458_0.1) hb) (Kd.R_base ho0)) (Kd.R_base ho1)) (fun _ h_ => h_.1)); have n5_ := Aside0.mk (Kd.R_mono (Kd.R_told (Kd.R_told (Kd.R_old (by (with_reducible repeat (first | apply Kd.R_alloc | apply Kd.R_drewN | apply Kd.R_drew)); exact Q458_1.1) hb) (Kd.R_base ho0)) (Kd.R_base ho1)) (fun _ h_ => h_.1)); have n6_ := Aside0.mk (Kd.R_mono (Kd.R_told (Kd.R_told (Kd.R_old (by (with_reducible repeat (first | apply Kd.R_alloc | apply Kd.R_drewN | apply Kd.R_drew)); exact HO476.1) hb) (Kd.R_base ho0)) (Kd.R_base ho1)) (fun _ h_ => h_.1)); have n7_ := Aside0.mk (Kd.R_mono (Kd.R_told (Kd.R_told (Kd.R_old (by (with_reducible repeat (first | apply Kd.R_alloc | apply Kd.R_drewN | apply Kd.R_drew)); exact HO479.1) hb) (Kd.R_base ho0)) (Kd.R_base ho1)) (fun _ h_ => h_.1)); have n8_ := Aside0.mk (Kd.R_lower (Kd.R_new' (Kd.R_new' (Kd.R_new' (Kd.R_new' (Kd.R_new' (Kd.R_new' (Kd.R_new' (Kd.R_new' ho0 (Kd.R_lt (by (with_reducible repeat (first | apply Kd.R_alloc | apply Kd.R_drewN | apply Kd.R_drew)); exact Q443_0.1))) (Kd.R_lt (by (with_reducible repeat (first | apply Kd.R_alloc | apply Kd.R_drewN | apply Kd.R_drew)); exact Q443_1.1))) (Kd.R_lt (by (with_reducible repeat (first | apply Kd.R_alloc | apply Kd.R_drewN | apply Kd.R_drew)); exact Q450_0.1))) (Kd.R_lt (by (with_reducible repeat (first | apply Kd.R_alloc | apply Kd.R_drewN | apply Kd.R_drew)); exact Q450_1.1))) (Kd.R_lt (by (with_reducible repeat (first | apply Kd.R_alloc | apply Kd.R_drewN | apply Kd.R_drew)); exact Q458_0.1))) (Kd.R_lt (by (with_reducible repeat (first | apply Kd.R_alloc | apply Kd.R_drewN | apply Kd.R_drew)); exact Q458_1.1))) (Kd.R_lt (by (with_reducible repeat (first | apply Kd.R_alloc | apply Kd.R_drewN | apply Kd.R_drew)); exact HO476.1))) (Kd.R_lt (by (with_reducible repeat (first | apply Kd.R_alloc | apply Kd.R_drewN | apply Kd.R_drew)); exact HO479.1))) (below_size (by repeat (first | (with_reducible first | exact HB.1 | apply below_alloc | apply pw_below_drewN | apply below_drew1 | refine below_set ?_ GE427.1 | refine below_set ?_ GE442.1 | refine below_set ?_ GE449.1 | refine below_set ?_ GE457.1) | exact HB.1)))); have n9_ := Aside0.mk (Kd.R_lower (Kd.R_new' (Kd.R_new' (Kd.R_new' (Kd.R_new' (Kd.R_new' (Kd.R_new' (Kd.R_new' (Kd.R_new' ho1 (Kd.R_lt (by (with_reducible repeat (first | apply Kd.R_alloc | apply Kd.R_drewN | apply Kd.R_drew)); exact Q443_0.1))) (Kd.R_lt (by (with_reducible repeat (first | apply Kd.R_alloc | apply Kd.R_drewN | apply Kd.R_drew)); exact Q443_1.1))) (Kd.R_lt (by (with_reducible repeat (first | apply Kd.R_alloc | apply Kd.R_drewN | apply Kd.R_drew)); exact Q450_0.1))) (Kd.R_lt (by (with_reducible repeat (first | apply Kd.R_alloc | apply Kd.R_drewN | apply Kd.R_drew)); exact Q450_1.1))) (Kd.R_lt (by (with_reducible repeat (first | apply Kd.R_alloc | apply Kd.R_drewN | apply Kd.R_drew)); exact Q458_0.1))) (Kd.R_lt (by (with_reducible repeat (first | apply Kd.R_alloc | apply Kd.R_drewN | apply Kd.R_drew)); exact Q458_1.1))) (Kd.R_lt (by (with_reducible repeat (first | apply Kd.R_alloc | apply Kd.R_drewN | apply Kd.R_drew)); exact HO476.1))) (Kd.R_lt (by (with_reducible repeat (first | apply Kd.R_alloc | apply Kd.R_drewN | apply Kd.R_drew)); exact HO479.1))) (below_size (by repeat (first | (with_reducible first | exact HB.1 | apply below_alloc | apply pw_below_drewN | apply below_drew1 | refine below_set ?_ GE427.1 | refine below_set ?_ GE442.1 | refine below_set ?_ GE449.1 | refine below_set ?_ GE457.1) | exact HB.1)))); have n10_ := Aside0.mk (blk_below (g := gb427) (o := .cells #[.slice A0_0 l0_0.length c0_0, .slice A0_1 l0_1.length c0_1] 24 (0, 0)) (by (with_reducible repeat (first | refine blk_drewN ?_ _ | refine blk_drew ?_ | refine blk_alloc ?_ _)); exact BK427.1) hb); have n11_ := Aside0.mk (blk_below (g := gb442) (o := .cells #[.slice Ao21 t435.length co21, .slice Ao24 t438.length co24] 28 (0, 0)) (by (with_reducible repeat (first | refine blk_drewN ?_ _ | refine blk_drew ?_ | refine blk_alloc ?_ _)); exact BK442.1) hb); have n12_ := Aside0.mk (blk_below (g := gb449) (o := .cells #[.slice Ao28 t467.length co28, .slice Ao32 t468.length co32] 28 (0, 0)) (by (with_reducible repeat (first | refine blk_drewN ?_ _ | refine blk_drew ?_ | refine blk_alloc ?_ _)); exact BK449.1) hb); have n13_ := Aside0.mk (blk_below (g := gb457) (o := .cells #[.slice Ao35 t450.length co35, .slice Ao40 t453.length co40] 28 (0, 0)) (by (with_reducible repeat (first | refine blk_drewN ?_ _ | refine blk_drew ?_ | refine blk_alloc ?_ _)); exact BK457.1) hb); have n14_ := Aside0.mk (below_step (by repeat (first | (with_reducible first | exact HB.1 | apply below_alloc | apply pw_below_drewN | apply below_drew1 | refine below_set ?_ GE427.1 | refine below_set ?_ GE442.1 | refine below_set ?_ GE449.1 | refine below_set ?_ GE457.1) | exact HB.1)) hb); clear Q443_0; clear Q443_1; clear Q450_0; clear Q450_1; clear Q458_0; clear Q458_1; clear HO476; clear HO479; clear BK427; clear BK442; clear BK449; clear BK457; clear HB; have Q443_0 := n0_; have Q443_1 := n1_; have Q450_0 := n2_; have Q450_1 := n3_; have Q458_0 := n4_; have Q458_1 := n5_; have HO476 := n6_; have HO479 := n7_; have HO482 := n8_; have HO485 := n9_; have BK427 := n10_; have BK442 := n11_; have BK449 := n12_; have BK457 := n13_; have HB := n14_; clear n0_ n1_ n2_ n3_ n4_ n5_ n6_ n7_ n8_ n9_ n10_ n11_ n12_ n13_ n14_; (try clear hb); (try clear hb2); (try clear hk); (try clear hi); (try clear ho0); (try clear ho1)) | ((with_reducible refine gate_dst (N := 12) rfl ?_); refine box_event ?hg (N := 12) ?hd (cs := #[.slice none 0 0, .slice none 0 0]) (t := 28) ?hr ?_; (case hd => rfl); (case hg => rfl); (case hr => first | (go_simp; done) | (go_simp; rfl)); intro gb487 hg w123 hbox hb; have n0_ := Aside0.mk (Kd.R_below (by (with_reducible repeat (first | apply Kd.R_alloc | apply Kd.R_drewN | apply Kd.R_drew)); exact Q443_0.1) hb); have n1_ := Aside0.mk (Kd.R_below (by (with_reducible repeat (first | apply Kd.R_alloc | apply Kd.R_drewN | apply Kd.R_drew)); exact Q443_1.1) hb); have n2_ := Aside0.mk (Kd.R_below (by (with_reducible repeat (first | apply Kd.R_alloc | apply Kd.R_drewN | apply Kd.R_drew)); exact Q450_0.1) hb); have n3_ := Aside0.mk (Kd.R_below (by (with_reducible repeat (first | apply Kd.R_alloc | apply Kd.R_drewN | apply Kd.R_drew)); exact Q450_1.1) hb); have n4_ := Aside0.mk (Kd.R_below (by (with_reducible repeat (first | apply Kd.R_alloc | apply Kd.R_drewN | apply Kd.R_drew)); exact Q458_0.1) hb); have n5_ := Aside0.mk (Kd.R_below (by (with_reducible repeat (first | apply Kd.R_alloc | apply Kd.R_drewN | apply Kd.R_drew)); exact Q458_1.1) hb); have n6_ := Aside0.mk (Kd.R_below (by (with_reducible repeat (first | apply Kd.R_alloc | apply Kd.R_drewN | apply Kd.R_drew)); exact HO476.1) hb); have n7_ := Aside0.mk (Kd.R_below (by (with_reducible repeat (first | apply Kd.R_alloc | apply Kd.R_drewN | apply Kd.R_drew)); exact HO479.1) hb); have n8_ := Aside0.mk (Kd.R_below (by (with_reducible repeat (first | apply Kd.R_alloc | apply Kd.R_drewN | apply Kd.R_drew)); exact HO482.1) hb); have n9_ := Aside0.mk (Kd.R_below (by (with_reducible repeat (first | apply Kd.R_alloc | apply Kd.R_drewN | apply Kd.R_drew)); exact HO485.1) hb); have n10_ := Aside0.mk (blk_below (g := gb427) (o := .cells #[.slice A0_0 l0_0.length c0_0, .slice A0_1 l0_1.length c0_1] 24 (0, 0)) (by (with_reducible repeat (first | refine blk_drewN ?_ _ | refine blk_drew ?_ | refine blk_alloc ?_ _)); exact BK427.1) hb); have n11_ := Aside0.mk (blk_below (g := gb442) (o := .cells #[.slice Ao21 t435.length co21, .slice Ao24 t438.length co24] 28 (0, 0)) (by (with_reducible repeat (first | refine blk_drewN ?_ _ | refine blk_drew ?_ | refine blk_alloc ?_ _)); exact BK442.1) hb); have n12_ := Aside0.mk (blk_below (g := gb449) (o := .cells #[.slice Ao28 t467.length co28, .slice Ao32 t468.length co32] 28 (0, 0)) (by (with_reducible repeat (first | refine blk_drewN ?_ _ | refine blk_drew ?_ | refine blk_alloc ?_ _)); exact BK449.1) hb); have n13_ := Aside0.mk (blk_below (g := gb457) (o := .cells #[.slice Ao35 t450.length co35, .slice Ao40 t453.length co40] 28 (0, 0)) (by (with_reducible repeat (first | refine blk_drewN ?_ _ | refine blk_drew ?_ | refine blk_alloc ?_ _)); exact BK457.1) hb); have n14_ := Aside0.mk (below_step (by repeat (first | (with_reducible first | exact HB.1 | apply below_alloc | apply pw_below_drewN | apply below_drew1 | refine below_set ?_ GE427.1 | refine below_set ?_ GE442.1 | refine below_set ?_ GE449.1 | refine below_set ?_ GE457.1) | exact HB.1)) hb); have n15_ := Aside0.mk (hbox); have n16_ := Aside0.mk ((by rw [hg]; exact (below_size (by repeat (first | (with_reducible first | exact HB.1 | apply below_alloc | apply pw_below_drewN | apply below_drew1 | refine below_set ?_ GE427.1 | refine below_set ?_ GE442.1 | refine below_set ?_ GE449.1 | refine below_set ?_ GE457.1) | exact HB.1))) : w.heap.size ≤ gb487)); have n17_ := Aside0.mk ((by rw [hg]; exact (below_size (by repeat (first | (with_reducible first | exact HB.1 | apply below_alloc | apply pw_below_drewN | apply below_drew1 | refine below_set ?_ GE427.1 | refine below_set ?_ GE442.1 | refine below_set ?_ GE449.1 | refine below_set ?_ GE457.1) | exact HB.1))) : w.heap.size ≤ gb487)); have n18_ := Aside0.mk ((by rw [hg]; exact Nat.ne_of_lt (blk_lt (g := gb427) (o := .cells #[.slice A0_0 l0_0.length c0_0, .slice A0_1 l0_1.length c0_1] 24 (0, 0)) (by (with_reducible repeat (first | refine blk_drewN ?_ _ | refine blk_drew ?_ | refine blk_alloc ?_ _)); exact BK427.1)) : gb427 ≠ gb487)); have n19_ := Aside0.mk ((by rw [hg]; exact Nat.ne_of_gt (blk_lt (g := gb427) (o := .cells #[.slice A0_0 l0_0.length c0_0, .slice A0_1 l0_1.length c0_1] 24 (0, 0)) (by (with_reducible repeat (first | refine blk_drewN ?_ _ | refine blk_drew ?_ | refine blk_alloc ?_ _)); exact BK427.1)) : gb487 ≠ gb427)); have n20_ := Aside0.mk ((by rw [hg]; exact Nat.ne_of_lt (blk_lt (g := gb442) (o := .cells #[.slice Ao21 t435.length co21, .slice Ao24 t438.length co24] 28 (0, 0)) (by (with_reducible repeat (first | refine blk_drewN ?_ _ | refine blk_drew ?_ | refine blk_alloc ?_ _)); exact BK442.1)) : gb442 ≠ gb487)); have n21_ := Aside0.mk ((by rw [hg]; exact Nat.ne_of_gt (blk_lt (g := gb442) (o := .cells #[.slice Ao21 t435.length co21, .slice Ao24 t438.length co24] 28 (0, 0)) (by (with_reducible repeat (first | refine blk_drewN ?_ _ | refine blk_drew ?_ | refine blk_alloc ?_ _)); exact BK442.1)) : gb487 ≠ gb442)); have n22_ := Aside0.mk ((by rw [hg]; exact Nat.ne_of_lt (blk_lt (g := gb449) (o := .cells #[.slice Ao28 t467.length co28, .slice Ao32 t468.length co32] 28 (0, 0)) (by (with_reducible repeat (first | refine blk_drewN ?_ _ | refine blk_drew ?_ | refine blk_alloc ?_ _)); exact BK449.1)) : gb449 ≠ gb487)); have n23_ := Aside0.mk ((by rw [hg]; exact Nat.ne_of_gt (blk_lt (g := gb449) (o := .cells #[.slice Ao28 t467.length co28, .slice Ao32 t468.length co32] 28 (0, 0)) (by (with_reducible repeat (first | refine blk_drewN ?_ _ | refine blk_drew ?_ | refine blk_alloc ?_ _)); exact BK449.1)) : gb487 ≠ gb449)); have n24_ := Aside0.mk ((by rw [hg]; exact Nat.ne_of_lt (blk_lt (g := gb457) (o := .cells #[.slice Ao35 t450.length co35, .slice Ao40 t453.length co40] 28 (0, 0)) (by (with_reducible repeat (first | refine blk_drewN ?_ _ | refine blk_drew ?_ | refine blk_alloc ?_ _)); exact BK457.1)) : gb457 ≠ gb487)); have n25_ := Aside0.mk ((by rw [hg]; exact Nat.ne_of_gt (blk_lt (g := gb457) (o := .cells #[.slice Ao35 t450.length co35, .slice Ao40 t453.length co40] 28 (0, 0)) (by (with_reducible repeat (first | refine blk_drewN ?_ _ | refine blk_drew ?_ | refine blk_alloc ?_ _)); exact BK457.1)) : gb487 ≠ gb457)); clear Q443_0; clear Q443_1; clear Q450_0; clear Q450_1; clear Q458_0; clear Q458_1; clear HO476; clear HO479; clear HO482; clear HO485; clear BK427; clear BK442; clear BK449; clear BK457; clear HB; have Q443_0 := n0_; have Q443_1 := n1_; have Q450_0 := n2_; have Q450_1 := n3_; have Q458_0 := n4_; have Q458_1 := n5_; have HO476 := n6_; have HO479 := n7_; have HO482 := n8_; have HO485 := n9_; have BK427 := n10_; have BK442 := n11_; have BK449 := n12_; have BK457 := n13_; have HB := n14_; have BK487 := n15_; have GW487 := n16_; have GE487 := n17_; have NB427_487 := n18_; have NB487_427 := n19_; have NB442_487 := n20_; have NB487_442 := n21_; have NB449_487 := n22_; have NB487_449 := n23_; have NB457_487 := n24_; have NB487_457 := n25_; clear n0_ n1_ n2_ n3_ n4_ n5_ n6_ n7_ n8_ n9_ n10_ n11_ n12_ n13_ n14_ n15_ n16_ n17_ n18_ n19_ n20_ n21_ n22_ n23_ n24_ n25_; clear hb hbox hg; obtain ⟨Ao124, co124, eo124⟩ := Kd.R_slice HO482.1; subst eo124; have hnb125 := NB487_427.1; have hnc125 := NB427_487.1; have hnb126 := NB487_442.1; have hnc126 := NB442_487.1; have hnb127 := NB487_449.1; have hnc127 := NB449_487.1; have hnb128 := NB487_457.1; have hnc128 := NB457_487.1; have hcz129_0 : w123.cell? ⟨gb487, 0, none⟩ = some (.slice none 0 0) := (blk_cell BK487.1 0).trans rfl; have hcz129_1 : w123.cell? ⟨gb487, 1, none⟩ = some (.slice none 0 0) := (blk_cell BK487.1 1).trans rfl; have hfz129_0 := blk_frozen BK487.1 0; have hfz129_1 := blk_frozen BK487.1 1; obtain ⟨Ao130, co130, eo130⟩ := Kd.R_slice HO485.1; subst eo130))
           (try simp only [Act.put, List.setIfInBounds_toArray, List.set_cons_zero, List.set_cons_succ])
           go_cut [87] (fun v87 wc => ∃ (kq : Nat) (x87_107 : Bool), v87 = .bool x87_107 ∧ Aside0 (laws_FnExactLooseGloves.j2 kq t470 x87_107 t471 t472 = some r) ∧ Aside0 (kq ≤ kj63) ∧ Aside0 (Kd.R (Kd.int .i64) 3 wc w.heap.size (fun k_ => some k_ ≠ ((.slice Ao24 t438.length co24) : Value).ownBlock ∧ some k_ ≠ ((.slice Ao28 t467.length co28) : Value).ownBlock ∧ some k_ ≠ ((.slice Ao32 t468.length co32) : Value).ownBlock ∧ some k_ ≠ ((.slice Ao35 t450.length co35) : Value).ownBlock ∧ some k_ ≠ ((.slice Ao40 t453.length co40) : Value).ownBlock ∧ some k_ ≠ ((.slice Ao124 t480.length co124) : Value).ownBlock ∧ some k_ ≠ ((.slice Ao130 t483.length co130) : Value).ownBlock) (.slice Ao21 t435.length co21) t435) ∧ Aside0 (Kd.R (Kd.int .i64) 3 wc w.heap.size (fun k_ => some k_ ≠ ((.slice Ao21 t435.length co21) : Value).ownBlock ∧ some k_ ≠ ((.slice Ao28 t467.length co28) : Value).ownBlock ∧ some k_ ≠ ((.slice Ao32 t468.length co32) : Value).ownBlock ∧ some k_ ≠ ((.slice Ao35 t450.length co35) : Value).ownBlock ∧ some k_ ≠ ((.slice Ao40 t453.length co40) : Value).ownBlock ∧ some k_ ≠ ((.slice Ao124 t480.length co124) : Value).ownBlock ∧ some k_ ≠ ((.slice Ao130 t483.length co130) : Value).ownBlock) (.slice Ao24 t438.length co24) t438) ∧ Aside0 (Kd.R (Kd.int .i64) 3 wc w.heap.size (fun k_ => some k_ ≠ ((.slice Ao21 t435.length co21) : Value).ownBlock ∧ some k_ ≠ ((.slice Ao24 t438.length co24) : Value).ownBlock ∧ some k_ ≠ ((.slice Ao32 t468.length co32) : Value).ownBlock ∧ some k_ ≠ ((.slice Ao35 t450.length co35) : Value).ownBlock ∧ some k_ ≠ ((.slice Ao40 t453.length co40) : Value).ownBlock ∧ some k_ ≠ ((.slice Ao124 t480.length co124) : Value).ownBlock ∧ some k_ ≠ ((.slice Ao130 t483.length co130) : Value).ownBlock) (.slice Ao28 t467.length co28) t467) ∧ Aside0 (Kd.R (Kd.int .i64) 3 wc w.heap.size (fun k_ => some k_ ≠ ((.slice Ao21 t435.length co21) : Value).ownBlock ∧ some k_ ≠ ((.slice Ao24 t438.length co24) : Value).ownBlock ∧ some k_ ≠ ((.slice Ao28 t467.length co28) : Value).ownBlock ∧ some k_ ≠ ((.slice Ao35 t450.length co35) : Value).ownBlock ∧ some k_ ≠ ((.slice Ao40 t453.length co40) : Value).ownBlock ∧ some k_ ≠ ((.slice Ao124 t480.length co124) : Value).ownBlock ∧ some k_ ≠ ((.slice Ao130 t483.length co130) : Value).ownBlock) (.slice Ao32 t468.length co32) t468) ∧ Aside0 (Kd.R (Kd.int .i64) 3 wc w.heap.size (fun k_ => some k_ ≠ ((.slice Ao21 t435.length co21) : Value).ownBlock ∧ some k_ ≠ ((.slice Ao24 t438.length co24) : Value).ownBlock ∧ some k_ ≠ ((.slice Ao28 t467.length co28) : Value).ownBlock ∧ some k_ ≠ ((.slice Ao32 t468.length co32) : Value).ownBlock ∧ some k_ ≠ ((.slice Ao40 t453.length co40) : Value).ownBlock ∧ some k_ ≠ ((.slice Ao124 t480.length co124) : Value).ownBlock ∧ some k_ ≠ ((.slice Ao130 t483.length co130) : Value).ownBlock) (.slice Ao35 t450.length co35) t471) ∧ Aside0 (Kd.R (Kd.int .i64) 3 wc w.heap.size (fun k_ => some k_ ≠ ((.slice Ao21 t435.length co21) : Value).ownBlock ∧ some k_ ≠ ((.slice Ao24 t438.length co24) : Value).ownBlock ∧ some k_ ≠ ((.slice Ao28 t467.length co28) : Value).ownBlock ∧ some k_ ≠ ((.slice Ao32 t468.length co32) : Value).ownBlock ∧ some k_ ≠ ((.slice Ao35 t450.length co35) : Value).ownBlock ∧ some k_ ≠ ((.slice Ao124 t480.length co124) : Value).ownBlock ∧ some k_ ≠ ((.slice Ao130 t483.length co130) : Value).ownBlock) (.slice Ao40 t453.length co40) t472) ∧ Aside0 (Kd.R (Kd.int .i64) 3 wc w.heap.size (fun k_ => some k_ ≠ ((.slice Ao21 t435.length co21) : Value).ownBlock ∧ some k_ ≠ ((.slice Ao24 t438.length co24) : Value).ownBlock ∧ some k_ ≠ ((.slice Ao28 t467.length co28) : Value).ownBlock ∧ some k_ ≠ ((.slice Ao32 t468.length co32) : Value).ownBlock ∧ some k_ ≠ ((.slice Ao35 t450.length co35) : Value).ownBlock ∧ some k_ ≠ ((.slice Ao40 t453.length co40) : Value).ownBlock ∧ some k_ ≠ ((.slice Ao130 t483.length co130) : Value).ownBlock) (.slice Ao124 t480.length co124) t480) ∧ Aside0 (Kd.R (Kd.int .i64) 3 wc w.heap.size (fun k_ => some k_ ≠ ((.slice Ao21 t435.length co21) : Value).ownBlock ∧ some k_ ≠ ((.slice Ao24 t438.length co24) : Value).ownBlock ∧ some k_ ≠ ((.slice Ao28 t467.length co28) : Value).ownBlock ∧ some k_ ≠ ((.slice Ao32 t468.length co32) : Value).ownBlock ∧ some k_ ≠ ((.slice Ao35 t450.length co35) : Value).ownBlock ∧ some k_ ≠ ((.slice Ao40 t453.length co40) : Value).ownBlock ∧ some k_ ≠ ((.slice Ao124 t480.length co124) : Value).ownBlock) (.slice Ao130 t483.length co130) t483) ∧ Aside0 (wc.heap[gb427]? = some (.cells #[(.slice A0_0 l0_0.length c0_0), (.slice A0_1 l0_1.length c0_1)] 24 (0, 0))) ∧ Aside0 (wc.heap[gb442]? = some (.cells #[(.slice Ao21 t435.length co21), (.slice Ao24 t438.length co24)] 28 (0, 0))) ∧ Aside0 (wc.heap[gb449]? = some (.cells #[(.slice Ao28 t467.length co28), (.slice Ao32 t468.length co32)] 28 (0, 0))) ∧ Aside0 (wc.heap[gb457]? = some (.cells #[(.slice Ao35 t450.length co35), (.slice Ao40 t453.length co40)] 28 (0, 0))) ∧ Aside0 (wc.heap[gb487]? = some (.cells #[(.slice Ao124 t480.length co124), (.slice Ao130 t483.length co130)] 28 (0, 0))) ∧ Aside0 (Below w.heap.size w wc))
           case first =>
            have H := HC108.1
            clear HC108
            replace H := Option.bind_eq_some_iff.mp H
            obtain ⟨t488, A1310, H⟩ := H
            replace H : (if t488 = true then (laws_FnExactLooseGloves.j2 kj63 t470 (t486 != t441) t471 t472) else (laws_FnExactLooseGloves.j2 kj63 t470 true t471 t472)) = some r := H
            have A131 := Aside0.mk A1310
            clear A1310
            by_cases c132 : t488 = true
            ·subst c132
             have H1 : (laws_FnExactLooseGloves.j2 kj63 t470 (t486 != t441) t471 t472) = some r := by rw [if_pos rfl] at H; exact H
             clear H
             have H := H1
             clear H1
             have H' := Aside0.mk H
             clear H
             have hnb133 := NB487_427.1
             have hnc133 := NB427_487.1
             have hnb134 := NB487_442.1
             have hnc134 := NB442_487.1
             have hnb135 := NB487_449.1
             have hnc135 := NB449_487.1
             have hnb136 := NB487_457.1
             have hnc136 := NB457_487.1
             have hcz137_0 : w123.cell? ⟨gb487, 0, none⟩ = some (.slice none 0 0) := (blk_cell BK487.1 0).trans rfl
             have hcz137_1 : w123.cell? ⟨gb487, 1, none⟩ = some (.slice none 0 0) := (blk_cell BK487.1 1).trans rfl
             have hfz137_0 := blk_frozen BK487.1 0
             have hfz137_1 := blk_frozen BK487.1 1
             have hnb138 := NB442_427.1
             have hnc138 := NB427_442.1
             have hnb139 := NB442_449.1
             have hnc139 := NB449_442.1
             have hnb140 := NB442_457.1
             have hnc140 := NB457_442.1
             have hcz141_0 : w123.cell? ⟨gb442, 0, none⟩ = some (.slice Ao21 t435.length co21) := (blk_cell BK442.1 0).trans rfl
             have hcz141_1 : w123.cell? ⟨gb442, 1, none⟩ = some (.slice Ao24 t438.length co24) := (blk_cell BK442.1 1).trans rfl
             have hfz141_0 := blk_frozen BK442.1 0
             have hfz141_1 := blk_frozen BK442.1 1
             go_wp2_with (first | ((with_reducible refine gate_callee (f := 19) rfl ?_); refine goesL_ (some 81) rfl rfl Try.func19 (by kernel_rfl) rfl #[.agg #[.slice Ao124 t480.length co124, .slice Ao130 t483.length co130], .agg #[.slice Ao21 t435.length co21, .slice Ao24 t438.length co24]] rfl (by (try simp only [List.map_toArray, List.map_cons, List.map_nil]); first | done | rfl | (simp only [List.length_drop, List.length_take]; rfl)) ?_; (with_reducible refine (laws_eqGloves.calls kj63 _ _ t480 _ _ t483 _ _ t435 _ _ t438 true _ ?side1 ?side2 ?side3 ?side4 ?side5 ?side6 ?side7 ?side8 A131.1).mono ?_); (case side1 => refine (Kd.R_reads' (e := 3) (base := w.heap.size) (ok := fun k_ => ((((((((some k_ ≠ (.slice Ao130 t483.length co130 : Value).ownBlock ∧ some k_ ≠ (.slice Ao21 t435.length co21 : Value).ownBlock) ∧ some k_ ≠ (.slice Ao24 t438.length co24 : Value).ownBlock) ∧ some k_ ≠ (.slice Ao28 t467.length co28 : Value).ownBlock) ∧ some k_ ≠ (.slice Ao32 t468.length co32 : Value).ownBlock) ∧ some k_ ≠ (.slice Ao35 t450.length co35 : Value).ownBlock) ∧ some k_ ≠ (.slice Ao40 t453.length co40 : Value).ownBlock) ∧ some k_ ≠ (.slice Ao120 t474.length co120 : Value).ownBlock) ∧ some k_ ≠ (.slice Ao121 t477.length co121 : Value).ownBlock)) (n := t480.length) (c := co124) ?_).2.2; exact (by (with_reducible repeat (first | apply Kd.R_alloc | apply Kd.R_drewN | apply Kd.R_drew)); exact (Kd.R_mono (Kd.R_far (p := ⟨gb487, 1, none⟩) (Kd.R_far (p := ⟨gb487, 0, none⟩) (Kd.R_types HO482.1 BK487.1 (by decide)) (fun _ hk => hk.2) (.slice Ao124 t480.length co124)) (fun _ hk => hk.2) (.slice Ao130 t483.length co130)) (fun _ h_ => h_.1)))); (case side2 => exact (Kd.R_reads' HO482.1).2.1); (case side3 => refine (Kd.R_reads' (e := 3) (base := w.heap.size) (ok := fun k_ => ((((((((some k_ ≠ (.slice Ao124 t480.length co124 : Value).ownBlock ∧ some k_ ≠ (.slice Ao21 t435.length co21 : Value).ownBlock) ∧ some k_ ≠ (.slice Ao24 t438.length co24 : Value).ownBlock) ∧ some k_ ≠ (.slice Ao28 t467.length co28 : Value).ownBlock) ∧ some k_ ≠ (.slice Ao32 t468.length co32 : Value).ownBlock) ∧ some k_ ≠ (.slice Ao35 t450.length co35 : Value).ownBlock) ∧ some k_ ≠ (.slice Ao40 t453.length co40 : Value).ownBlock) ∧ some k_ ≠ (.slice Ao120 t474.length co120 : Value).ownBlock) ∧ some k_ ≠ (.slice Ao121 t477.length co121 : Value).ownBlock)) (n := t483.length) (c := co130) ?_).2.2; exact (by (with_reducible repeat (first | apply Kd.R_alloc | apply Kd.R_drewN | apply Kd.R_drew)); exact (Kd.R_mono (Kd.R_far (p := ⟨gb487, 1, none⟩) (Kd.R_far (p := ⟨gb487, 0, none⟩) (Kd.R_types HO485.1 BK487.1 (by decide)) (fun _ hk => hk.2) (.slice Ao124 t480.length co124)) (fun _ hk => hk.2) (.slice Ao130 t483.length co130)) (fun _ h_ => h_.1)))); (case side4 => exact (Kd.R_reads' HO485.1).2.1); (case side5 => refine (Kd.R_reads' (e := 3) (base := w.heap.size) (ok := fun k_ => (((((some k_ ≠ (.slice Ao24 t438.length co24 : Value).ownBlock ∧ (some k_ ≠ (.slice Ao28 t467.length co28 : Value).ownBlock ∧ (some k_ ≠ (.slice Ao32 t468.length co32 : Value).ownBlock ∧ (some k_ ≠ (.slice Ao35 t450.length co35 : Value).ownBlock ∧ some k_ ≠ (.slice Ao40 t453.length co40 : Value).ownBlock)))) ∧ some k_ ≠ (.slice Ao120 t474.length co120 : Value).ownBlock) ∧ some k_ ≠ (.slice Ao121 t477.length co121 : Value).ownBlock) ∧ some k_ ≠ (.slice Ao124 t480.length co124 : Value).ownBlock) ∧ some k_ ≠ (.slice Ao130 t483.length co130 : Value).ownBlock)) (n := t435.length) (c := co21) ?_).2.2; exact (by (with_reducible repeat (first | apply Kd.R_alloc | apply Kd.R_drewN | apply Kd.R_drew)); exact (Kd.R_mono (Kd.R_far (p := ⟨gb487, 1, none⟩) (Kd.R_far (p := ⟨gb487, 0, none⟩) (Kd.R_types Q443_0.1 BK487.1 (by decide)) (fun _ hk => hk.2) (.slice Ao124 t480.length co124)) (fun _ hk => hk.2) (.slice Ao130 t483.length co130)) (fun _ h_ => h_.1)))); (case side6 => exact (Kd.R_reads' Q443_0.1).2.1); (case side7 => refine (Kd.R_reads' (e := 3) (base := w.heap.size) (ok := fun k_ => (((((some k_ ≠ (.slice Ao21 t435.length co21 : Value).ownBlock ∧ (some k_ ≠ (.slice Ao28 t467.length co28 : Value).ownBlock ∧ (some k_ ≠ (.slice Ao32 t468.length co32 : Value).ownBlock ∧ (some k_ ≠ (.slice Ao35 t450.length co35 : Value).ownBlock ∧ some k_ ≠ (.slice Ao40 t453.length co40 : Value).ownBlock)))) ∧ some k_ ≠ (.slice Ao120 t474.length co120 : Value).ownBlock) ∧ some k_ ≠ (.slice Ao121 t477.length co121 : Value).ownBlock) ∧ some k_ ≠ (.slice Ao124 t480.length co124 : Value).ownBlock) ∧ some k_ ≠ (.slice Ao130 t483.length co130 : Value).ownBlock)) (n := t438.length) (c := co24) ?_).2.2; exact (by (with_reducible repeat (first | apply Kd.R_alloc | apply Kd.R_drewN | apply Kd.R_drew)); exact (Kd.R_mono (Kd.R_far (p := ⟨gb487, 1, none⟩) (Kd.R_far (p := ⟨gb487, 0, none⟩) (Kd.R_types Q443_1.1 BK487.1 (by decide)) (fun _ hk => hk.2) (.slice Ao124 t480.length co124)) (fun _ hk => hk.2) (.slice Ao130 t483.length co130)) (fun _ h_ => h_.1)))); (case side8 => exact (Kd.R_reads' Q443_1.1).2.1); rintro e w142 ⟨rfl, hb⟩; refine ⟨_, rfl, ?_⟩; have n0_ := Aside0.mk (Kd.R_below (by (with_reducible repeat (first | apply Kd.R_alloc | apply Kd.R_drewN | apply Kd.R_drew)); exact (Kd.R_mono (Kd.R_far (p := ⟨gb487, 1, none⟩) (Kd.R_far (p := ⟨gb487, 0, none⟩) (Kd.R_types Q443_0.1 BK487.1 (by decide)) (fun _ hk => hk.2) (.slice Ao124 t480.length co124)) (fun _ hk => hk.2) (.slice Ao130 t483.length co130)) (fun _ h_ => h_.1))) hb); have n1_ := Aside0.mk (Kd.R_below (by (with_reducible repeat (first | apply Kd.R_alloc | apply Kd.R_drewN | apply Kd.R_drew)); exact (Kd.R_mono (Kd.R_far (p := ⟨gb487, 1, none⟩) (Kd.R_far (p := ⟨gb487, 0, none⟩) (Kd.R_types Q443_1.1 BK487.1 (by decide)) (fun _ hk => hk.2) (.slice Ao124 t480.length co124)) (fun _ hk => hk.2) (.slice Ao130 t483.length co130)) (fun _ h_ => h_.1))) hb); have n2_ := Aside0.mk (Kd.R_below (by (with_reducible repeat (first | apply Kd.R_alloc | apply Kd.R_drewN | apply Kd.R_drew)); exact (Kd.R_mono (Kd.R_far (p := ⟨gb487, 1, none⟩) (Kd.R_far (p := ⟨gb487, 0, none⟩) (Kd.R_types Q450_0.1 BK487.1 (by decide)) (fun _ hk => hk.2) (.slice Ao124 t480.length co124)) (fun _ hk => hk.2) (.slice Ao130 t483.length co130)) (fun _ h_ => h_.1))) hb); have n3_ := Aside0.mk (Kd.R_below (by (with_reducible repeat (first | apply Kd.R_alloc | apply Kd.R_drewN | apply Kd.R_drew)); exact (Kd.R_mono (Kd.R_far (p := ⟨gb487, 1, none⟩) (Kd.R_far (p := ⟨gb487, 0, none⟩) (Kd.R_types Q450_1.1 BK487.1 (by decide)) (fun _ hk => hk.2) (.slice Ao124 t480.length co124)) (fun _ hk => hk.2) (.slice Ao130 t483.length co130)) (fun _ h_ => h_.1))) hb); have n4_ := Aside0.mk (Kd.R_below (by (with_reducible repeat (first | apply Kd.R_alloc | apply Kd.R_drewN | apply Kd.R_drew)); exact (Kd.R_mono (Kd.R_far (p := ⟨gb487, 1, none⟩) (Kd.R_far (p := ⟨gb487, 0, none⟩) (Kd.R_types Q458_0.1 BK487.1 (by decide)) (fun _ hk => hk.2) (.slice Ao124 t480.length co124)) (fun _ hk => hk.2) (.slice Ao130 t483.length co130)) (fun _ h_ => h_.1))) hb); have n5_ := Aside0.mk (Kd.R_below (by (with_reducible repeat (first | apply Kd.R_alloc | apply Kd.R_drewN | apply Kd.R_drew)); exact (Kd.R_mono (Kd.R_far (p := ⟨gb487, 1, none⟩) (Kd.R_far (p := ⟨gb487, 0, none⟩) (Kd.R_types Q458_1.1 BK487.1 (by decide)) (fun _ hk => hk.2) (.slice Ao124 t480.length co124)) (fun _ hk => hk.2) (.slice Ao130 t483.length co130)) (fun _ h_ => h_.1))) hb); have n6_ := Aside0.mk (Kd.R_below (by (with_reducible repeat (first | apply Kd.R_alloc | apply Kd.R_drewN | apply Kd.R_drew)); exact (Kd.R_mono (Kd.R_far (p := ⟨gb487, 1, none⟩) (Kd.R_far (p := ⟨gb487, 0, none⟩) (Kd.R_types HO476.1 BK487.1 (by decide)) (fun _ hk => hk.2) (.slice Ao124 t480.length co124)) (fun _ hk => hk.2) (.slice Ao130 t483.length co130)) (fun _ h_ => h_.1))) hb); have n7_ := Aside0.mk (Kd.R_below (by (with_reducible repeat (first | apply Kd.R_alloc | apply Kd.R_drewN | apply Kd.R_drew)); exact (Kd.R_mono (Kd.R_far (p := ⟨gb487, 1, none⟩) (Kd.R_far (p := ⟨gb487, 0, none⟩) (Kd.R_types HO479.1 BK487.1 (by decide)) (fun _ hk => hk.2) (.slice Ao124 t480.length co124)) (fun _ hk => hk.2) (.slice Ao130 t483.length co130)) (fun _ h_ => h_.1))) hb); have n8_ := Aside0.mk (Kd.R_below (by (with_reducible repeat (first | apply Kd.R_alloc | apply Kd.R_drewN | apply Kd.R_drew)); exact (Kd.R_mono (Kd.R_far (p := ⟨gb487, 1, none⟩) (Kd.R_far (p := ⟨gb487, 0, none⟩) (Kd.R_types HO482.1 BK487.1 (by decide)) (fun _ hk => hk.2) (.slice Ao124 t480.length co124)) (fun _ hk => hk.2) (.slice Ao130 t483.length co130)) (fun _ h_ => h_.1))) hb); have n9_ := Aside0.mk (Kd.R_below (by (with_reducible repeat (first | apply Kd.R_alloc | apply Kd.R_drewN | apply Kd.R_drew)); exact (Kd.R_mono (Kd.R_far (p := ⟨gb487, 1, none⟩) (Kd.R_far (p := ⟨gb487, 0, none⟩) (Kd.R_types HO485.1 BK487.1 (by decide)) (fun _ hk => hk.2) (.slice Ao124 t480.length co124)) (fun _ hk => hk.2) (.slice Ao130 t483.length co130)) (fun _ h_ => h_.1))) hb); have n10_ := Aside0.mk (blk_below (g := gb427) (o := .cells #[.slice A0_0 l0_0.length c0_0, .slice A0_1 l0_1.length c0_1] 24 (0, 0)) (by (with_reducible repeat (first | refine blk_drewN ?_ _ | refine blk_drew ?_ | refine blk_alloc ?_ _)); refine blk_far ?_ NB427_487.1 _; (with_reducible repeat (first | refine blk_drewN ?_ _ | refine blk_drew ?_ | refine blk_alloc ?_ _)); refine blk_far ?_ NB427_487.1 _; (with_reducible repeat (first | refine blk_drewN ?_ _ | refine blk_drew ?_ | refine blk_alloc ?_ _)); exact BK427.1) hb); have n11_ := Aside0.mk (blk_below (g := gb442) (o := .cells #[.slice Ao21 t435.length co21, .slice Ao24 t438.length co24] 28 (0, 0)) (by (with_reducible repeat (first | refine blk_drewN ?_ _ | refine blk_drew ?_ | refine blk_alloc ?_ _)); refine blk_far ?_ NB442_487.1 _; (with_reducible repeat (first | refine blk_drewN ?_ _ | refine blk_drew ?_ | refine blk_alloc ?_ _)); refine blk_far ?_ NB442_487.1 _; (with_reducible repeat (first | refine blk_drewN ?_ _ | refine blk_drew ?_ | refine blk_alloc ?_ _)); exact BK442.1) hb); have n12_ := Aside0.mk (blk_below (g := gb449) (o := .cells #[.slice Ao28 t467.length co28, .slice Ao32 t468.length co32] 28 (0, 0)) (by (with_reducible repeat (first | refine blk_drewN ?_ _ | refine blk_drew ?_ | refine blk_alloc ?_ _)); refine blk_far ?_ NB449_487.1 _; (with_reducible repeat (first | refine blk_drewN ?_ _ | refine blk_drew ?_ | refine blk_alloc ?_ _)); refine blk_far ?_ NB449_487.1 _; (with_reducible repeat (first | refine blk_drewN ?_ _ | refine blk_drew ?_ | refine blk_alloc ?_ _)); exact BK449.1) hb); have n13_ := Aside0.mk (blk_below (g := gb457) (o := .cells #[.slice Ao35 t450.length co35, .slice Ao40 t453.length co40] 28 (0, 0)) (by (with_reducible repeat (first | refine blk_drewN ?_ _ | refine blk_drew ?_ | refine blk_alloc ?_ _)); refine blk_far ?_ NB457_487.1 _; (with_reducible repeat (first | refine blk_drewN ?_ _ | refine blk_drew ?_ | refine blk_alloc ?_ _)); refine blk_far ?_ NB457_487.1 _; (with_reducible repeat (first | refine blk_drewN ?_ _ | refine blk_drew ?_ | refine blk_alloc ?_ _)); exact BK457.1) hb); have n14_ := Aside0.mk (blk_below (g := gb487) (o := .cells #[.slice Ao124 t480.length co124, .slice Ao130 t483.length co130] 28 (0, 0)) (by (with_reducible repeat (first | refine blk_drewN ?_ _ | refine blk_drew ?_ | refine blk_alloc ?_ _)); refine blk_put (cs := #[.slice Ao124 t480.length co124, .slice none 0 0]) ?_ 1 _ rfl; (with_reducible repeat (first | refine blk_drewN ?_ _ | refine blk_drew ?_ | refine blk_alloc ?_ _)); refine blk_put (cs := #[.slice none 0 0, .slice none 0 0]) ?_ 0 _ rfl; (with_reducible repeat (first | refine blk_drewN ?_ _ | refine blk_drew ?_ | refine blk_alloc ?_ _)); exact BK487.1) hb); have n15_ := Aside0.mk (below_step (by repeat (first | (with_reducible first | exact HB.1 | apply below_alloc | apply pw_below_drewN | apply below_drew1 | refine below_set ?_ GE427.1 | refine below_set ?_ GE442.1 | refine below_set ?_ GE449.1 | refine below_set ?_ GE457.1 | refine below_set ?_ GE487.1) | exact HB.1)) hb); clear Q443_0; clear Q443_1; clear Q450_0; clear Q450_1; clear Q458_0; clear Q458_1; clear HO476; clear HO479; clear HO482; clear HO485; clear BK427; clear BK442; clear BK449; clear BK457; clear BK487; clear HB; have Q443_0 := n0_; have Q443_1 := n1_; have Q450_0 := n2_; have Q450_1 := n3_; have Q458_0 := n4_; have Q458_1 := n5_; have HO476 := n6_; have HO479 := n7_; have HO482 := n8_; have HO485 := n9_; have BK427 := n10_; have BK442 := n11_; have BK449 := n12_; have BK457 := n13_; have BK487 := n14_; have HB := n15_; clear n0_ n1_ n2_ n3_ n4_ n5_ n6_ n7_ n8_ n9_ n10_ n11_ n12_ n13_ n14_ n15_; (try clear hb); (try clear hb2); (try clear hk); (try clear hi)))
             go_meet
             case rel => exact ⟨_, ((t486 != t441)), (by first | rfl | (simp; done) | (simp [*]; done) | (simp [Go.IntWalk.i64_left]; done)), H', ⟨by have := HJ10.1; have := HJ63.1; first | omega | exact Nat.le_refl _⟩, ⟨by (try simp only [hl450000_63]); (try simp only [hl450001_63]); (with_reducible repeat (first | apply Kd.R_alloc | apply Kd.R_drewN | apply Kd.R_drew)); exact Kd.R_mono Q443_0.1 (fun _ hk => ⟨hk.1.1.1.1.1, ⟨hk.1.1.1.1.2.1, ⟨hk.1.1.1.1.2.2.1, ⟨hk.1.1.1.1.2.2.2.1, ⟨hk.1.1.1.1.2.2.2.2, ⟨hk.1.2, hk.2⟩⟩⟩⟩⟩⟩)⟩, ⟨by (try simp only [hl450000_63]); (try simp only [hl450001_63]); (with_reducible repeat (first | apply Kd.R_alloc | apply Kd.R_drewN | apply Kd.R_drew)); exact Kd.R_mono Q443_1.1 (fun _ hk => ⟨hk.1.1.1.1.1, ⟨hk.1.1.1.1.2.1, ⟨hk.1.1.1.1.2.2.1, ⟨hk.1.1.1.1.2.2.2.1, ⟨hk.1.1.1.1.2.2.2.2, ⟨hk.1.2, hk.2⟩⟩⟩⟩⟩⟩)⟩, ⟨by (try simp only [hl450000_63]); (try simp only [hl450001_63]); (with_reducible repeat (first | apply Kd.R_alloc | apply Kd.R_drewN | apply Kd.R_drew)); exact Kd.R_mono Q450_0.1 (fun _ hk => ⟨hk.1.1.1.1.1, ⟨hk.1.1.1.1.2.1, ⟨hk.1.1.1.1.2.2.1, ⟨hk.1.1.1.1.2.2.2.1, ⟨hk.1.1.1.1.2.2.2.2, ⟨hk.1.2, hk.2⟩⟩⟩⟩⟩⟩)⟩, ⟨by (try simp only [hl450000_63]); (try simp only [hl450001_63]); (with_reducible repeat (first | apply Kd.R_alloc | apply Kd.R_drewN | apply Kd.R_drew)); exact Kd.R_mono Q450_1.1 (fun _ hk => ⟨hk.1.1.1.1.1, ⟨hk.1.1.1.1.2.1, ⟨hk.1.1.1.1.2.2.1, ⟨hk.1.1.1.1.2.2.2.1, ⟨hk.1.1.1.1.2.2.2.2, ⟨hk.1.2, hk.2⟩⟩⟩⟩⟩⟩)⟩, ⟨by (try simp only [hl450000_63]); (try simp only [hl450001_63]); (with_reducible repeat (first | apply Kd.R_alloc | apply Kd.R_drewN | apply Kd.R_drew)); exact Kd.R_mono Q458_0.1 (fun _ hk => ⟨hk.1.1.1.1.1, ⟨hk.1.1.1.1.2.1, ⟨hk.1.1.1.1.2.2.1, ⟨hk.1.1.1.1.2.2.2.1, ⟨hk.1.1.1.1.2.2.2.2, ⟨hk.1.2, hk.2⟩⟩⟩⟩⟩⟩)⟩, ⟨by (try simp only [hl450000_63]); (try simp only [hl450001_63]); (with_reducible repeat (first | apply Kd.R_alloc | apply Kd.R_drewN | apply Kd.R_drew)); exact Kd.R_mono Q458_1.1 (fun _ hk => ⟨hk.1.1.1.1.1, ⟨hk.1.1.1.1.2.1, ⟨hk.1.1.1.1.2.2.1, ⟨hk.1.1.1.1.2.2.2.1, ⟨hk.1.1.1.1.2.2.2.2, ⟨hk.1.2, hk.2⟩⟩⟩⟩⟩⟩)⟩, ⟨by (try simp only [hl450000_63]); (try simp only [hl450001_63]); (with_reducible repeat (first | apply Kd.R_alloc | apply Kd.R_drewN | apply Kd.R_drew)); exact Kd.R_mono HO482.1 (fun _ hk => ⟨hk.1.1.1.1.1.1.1.2, ⟨hk.1.1.1.1.1.1.2, ⟨hk.1.1.1.1.1.2, ⟨hk.1.1.1.1.2, ⟨hk.1.1.1.2, ⟨hk.1.1.2, hk.1.1.1.1.1.1.1.1⟩⟩⟩⟩⟩⟩)⟩, ⟨by (try simp only [hl450000_63]); (try simp only [hl450001_63]); (with_reducible repeat (first | apply Kd.R_alloc | apply Kd.R_drewN | apply Kd.R_drew)); exact Kd.R_mono HO485.1 (fun _ hk => ⟨hk.1.1.1.1.1.1.1.2, ⟨hk.1.1.1.1.1.1.2, ⟨hk.1.1.1.1.1.2, ⟨hk.1.1.1.1.2, ⟨hk.1.1.1.2, ⟨hk.1.1.2, hk.1.1.1.1.1.1.1.1⟩⟩⟩⟩⟩⟩)⟩, ⟨by (try simp only [hl450000_63]); (try simp only [hl450001_63]); (with_reducible repeat (first | refine blk_drewN ?_ _ | refine blk_drew ?_ | refine blk_alloc ?_ _)); exact BK427.1⟩, ⟨by (try simp only [hl450000_63]); (try simp only [hl450001_63]); (with_reducible repeat (first | refine blk_drewN ?_ _ | refine blk_drew ?_ | refine blk_alloc ?_ _)); exact BK442.1⟩, ⟨by (try simp only [hl450000_63]); (try simp only [hl450001_63]); (with_reducible repeat (first | refine blk_drewN ?_ _ | refine blk_drew ?_ | refine blk_alloc ?_ _)); exact BK449.1⟩, ⟨by (try simp only [hl450000_63]); (try simp only [hl450001_63]); (with_reducible repeat (first | refine blk_drewN ?_ _ | refine blk_drew ?_ | refine blk_alloc ?_ _)); exact BK457.1⟩, ⟨by (try simp only [hl450000_63]); (try simp only [hl450001_63]); (with_reducible repeat (first | refine blk_drewN ?_ _ | refine blk_drew ?_ | refine blk_alloc ?_ _)); exact BK487.1⟩, ⟨by repeat (first | (with_reducible first | exact HB.1 | apply below_alloc | apply pw_below_drewN | apply below_drew1 | refine below_set ?_ GE427.1 | refine below_set ?_ GE442.1 | refine below_set ?_ GE449.1 | refine below_set ?_ GE457.1 | refine below_set ?_ GE487.1) | exact HB.1)⟩⟩
            ·replace c132 := Bool.eq_false_iff.mpr c132
             subst c132
             have H1 : (laws_FnExactLooseGloves.j2 kj63 t470 true t471 t472) = some r := by rw [if_neg (show ¬ (false = true) by decide)] at H; exact H
             clear H
             have H := H1
             clear H1
             have H' := Aside0.mk H
             clear H
             have hnb143 := NB487_427.1
             have hnc143 := NB427_487.1
             have hnb144 := NB487_442.1
             have hnc144 := NB442_487.1
             have hnb145 := NB487_449.1
             have hnc145 := NB449_487.1
             have hnb146 := NB487_457.1
             have hnc146 := NB457_487.1
             have hcz147_0 : w123.cell? ⟨gb487, 0, none⟩ = some (.slice none 0 0) := (blk_cell BK487.1 0).trans rfl
             have hcz147_1 : w123.cell? ⟨gb487, 1, none⟩ = some (.slice none 0 0) := (blk_cell BK487.1 1).trans rfl
             have hfz147_0 := blk_frozen BK487.1 0
             have hfz147_1 := blk_frozen BK487.1 1
             have hnb148 := NB442_427.1
             have hnc148 := NB427_442.1
             have hnb149 := NB442_449.1
             have hnc149 := NB449_442.1
             have hnb150 := NB442_457.1
             have hnc150 := NB457_442.1
             have hcz151_0 : w123.cell? ⟨gb442, 0, none⟩ = some (.slice Ao21 t435.length co21) := (blk_cell BK442.1 0).trans rfl
             have hcz151_1 : w123.cell? ⟨gb442, 1, none⟩ = some (.slice Ao24 t438.length co24) := (blk_cell BK442.1 1).trans rfl
             have hfz151_0 := blk_frozen BK442.1 0
             have hfz151_1 := blk_frozen BK442.1 1
             go_wp2_with (first | ((with_reducible refine gate_callee (f := 19) rfl ?_); refine goesL_ (some 81) rfl rfl Try.func19 (by kernel_rfl) rfl #[.agg #[.slice Ao124 t480.length co124, .slice Ao130 t483.length co130], .agg #[.slice Ao21 t435.length co21, .slice Ao24 t438.length co24]] rfl (by (try simp only [List.map_toArray, List.map_cons, List.map_nil]); first | done | rfl | (simp only [List.length_drop, List.length_take]; rfl)) ?_; (with_reducible refine (laws_eqGloves.calls kj63 _ _ t480 _ _ t483 _ _ t435 _ _ t438 false _ ?side1 ?side2 ?side3 ?side4 ?side5 ?side6 ?side7 ?side8 A131.1).mono ?_); (case side1 => refine (Kd.R_reads' (e := 3) (base := w.heap.size) (ok := fun k_ => ((((((((some k_ ≠ (.slice Ao130 t483.length co130 : Value).ownBlock ∧ some k_ ≠ (.slice Ao21 t435.length co21 : Value).ownBlock) ∧ some k_ ≠ (.slice Ao24 t438.length co24 : Value).ownBlock) ∧ some k_ ≠ (.slice Ao28 t467.length co28 : Value).ownBlock) ∧ some k_ ≠ (.slice Ao32 t468.length co32 : Value).ownBlock) ∧ some k_ ≠ (.slice Ao35 t450.length co35 : Value).ownBlock) ∧ some k_ ≠ (.slice Ao40 t453.length co40 : Value).ownBlock) ∧ some k_ ≠ (.slice Ao120 t474.length co120 : Value).ownBlock) ∧ some k_ ≠ (.slice Ao121 t477.length co121 : Value).ownBlock)) (n := t480.length) (c := co124) ?_).2.2; exact (by (with_reducible repeat (first | apply Kd.R_alloc | apply Kd.R_drewN | apply Kd.R_drew)); exact (Kd.R_mono (Kd.R_far (p := ⟨gb487, 1, none⟩) (Kd.R_far (p := ⟨gb487, 0, none⟩) (Kd.R_types HO482.1 BK487.1 (by decide)) (fun _ hk => hk.2) (.slice Ao124 t480.length co124)) (fun _ hk => hk.2) (.slice Ao130 t483.length co130)) (fun _ h_ => h_.1)))); (case side2 => exact (Kd.R_reads' HO482.1).2.1); (case side3 => refine (Kd.R_reads' (e := 3) (base := w.heap.size) (ok := fun k_ => ((((((((some k_ ≠ (.slice Ao124 t480.length co124 : Value).ownBlock ∧ some k_ ≠ (.slice Ao21 t435.length co21 : Value).ownBlock) ∧ some k_ ≠ (.slice Ao24 t438.length co24 : Value).ownBlock) ∧ some k_ ≠ (.slice Ao28 t467.length co28 : Value).ownBlock) ∧ some k_ ≠ (.slice Ao32 t468.length co32 : Value).ownBlock) ∧ some k_ ≠ (.slice Ao35 t450.length co35 : Value).ownBlock) ∧ some k_ ≠ (.slice Ao40 t453.length co40 : Value).ownBlock) ∧ some k_ ≠ (.slice Ao120 t474.length co120 : Value).ownBlock) ∧ some k_ ≠ (.slice Ao121 t477.length co121 : Value).ownBlock)) (n := t483.length) (c := co130) ?_).2.2; exact (by (with_reducible repeat (first | apply Kd.R_alloc | apply Kd.R_drewN | apply Kd.R_drew)); exact (Kd.R_mono (Kd.R_far (p := ⟨gb487, 1, none⟩) (Kd.R_far (p := ⟨gb487, 0, none⟩) (Kd.R_types HO485.1 BK487.1 (by decide)) (fun _ hk => hk.2) (.slice Ao124 t480.length co124)) (fun _ hk => hk.2) (.slice Ao130 t483.length co130)) (fun _ h_ => h_.1)))); (case side4 => exact (Kd.R_reads' HO485.1).2.1); (case side5 => refine (Kd.R_reads' (e := 3) (base := w.heap.size) (ok := fun k_ => (((((some k_ ≠ (.slice Ao24 t438.length co24 : Value).ownBlock ∧ (some k_ ≠ (.slice Ao28 t467.length co28 : Value).ownBlock ∧ (some k_ ≠ (.slice Ao32 t468.length co32 : Value).ownBlock ∧ (some k_ ≠ (.slice Ao35 t450.length co35 : Value).ownBlock ∧ some k_ ≠ (.slice Ao40 t453.length co40 : Value).ownBlock)))) ∧ some k_ ≠ (.slice Ao120 t474.length co120 : Value).ownBlock) ∧ some k_ ≠ (.slice Ao121 t477.length co121 : Value).ownBlock) ∧ some k_ ≠ (.slice Ao124 t480.length co124 : Value).ownBlock) ∧ some k_ ≠ (.slice Ao130 t483.length co130 : Value).ownBlock)) (n := t435.length) (c := co21) ?_).2.2; exact (by (with_reducible repeat (first | apply Kd.R_alloc | apply Kd.R_drewN | apply Kd.R_drew)); exact (Kd.R_mono (Kd.R_far (p := ⟨gb487, 1, none⟩) (Kd.R_far (p := ⟨gb487, 0, none⟩) (Kd.R_types Q443_0.1 BK487.1 (by decide)) (fun _ hk => hk.2) (.slice Ao124 t480.length co124)) (fun _ hk => hk.2) (.slice Ao130 t483.length co130)) (fun _ h_ => h_.1)))); (case side6 => exact (Kd.R_reads' Q443_0.1).2.1); (case side7 => refine (Kd.R_reads' (e := 3) (base := w.heap.size) (ok := fun k_ => (((((some k_ ≠ (.slice Ao21 t435.length co21 : Value).ownBlock ∧ (some k_ ≠ (.slice Ao28 t467.length co28 : Value).ownBlock ∧ (some k_ ≠ (.slice Ao32 t468.length co32 : Value).ownBlock ∧ (some k_ ≠ (.slice Ao35 t450.length co35 : Value).ownBlock ∧ some k_ ≠ (.slice Ao40 t453.length co40 : Value).ownBlock)))) ∧ some k_ ≠ (.slice Ao120 t474.length co120 : Value).ownBlock) ∧ some k_ ≠ (.slice Ao121 t477.length co121 : Value).ownBlock) ∧ some k_ ≠ (.slice Ao124 t480.length co124 : Value).ownBlock) ∧ some k_ ≠ (.slice Ao130 t483.length co130 : Value).ownBlock)) (n := t438.length) (c := co24) ?_).2.2; exact (by (with_reducible repeat (first | apply Kd.R_alloc | apply Kd.R_drewN | apply Kd.R_drew)); exact (Kd.R_mono (Kd.R_far (p := ⟨gb487, 1, none⟩) (Kd.R_far (p := ⟨gb487, 0, none⟩) (Kd.R_types Q443_1.1 BK487.1 (by decide)) (fun _ hk => hk.2) (.slice Ao124 t480.length co124)) (fun _ hk => hk.2) (.slice Ao130 t483.length co130)) (fun _ h_ => h_.1)))); (case side8 => exact (Kd.R_reads' Q443_1.1).2.1); rintro e w152 ⟨rfl, hb⟩; refine ⟨_, rfl, ?_⟩; have n0_ := Aside0.mk (Kd.R_below (by (with_reducible repeat (first | apply Kd.R_alloc | apply Kd.R_drewN | apply Kd.R_drew)); exact (Kd.R_mono (Kd.R_far (p := ⟨gb487, 1, none⟩) (Kd.R_far (p := ⟨gb487, 0, none⟩) (Kd.R_types Q443_0.1 BK487.1 (by decide)) (fun _ hk => hk.2) (.slice Ao124 t480.length co124)) (fun _ hk => hk.2) (.slice Ao130 t483.length co130)) (fun _ h_ => h_.1))) hb); have n1_ := Aside0.mk (Kd.R_below (by (with_reducible repeat (first | apply Kd.R_alloc | apply Kd.R_drewN | apply Kd.R_drew)); exact (Kd.R_mono (Kd.R_far (p := ⟨gb487, 1, none⟩) (Kd.R_far (p := ⟨gb487, 0, none⟩) (Kd.R_types Q443_1.1 BK487.1 (by decide)) (fun _ hk => hk.2) (.slice Ao124 t480.length co124)) (fun _ hk => hk.2) (.slice Ao130 t483.length co130)) (fun _ h_ => h_.1))) hb); have n2_ := Aside0.mk (Kd.R_below (by (with_reducible repeat (first | apply Kd.R_alloc | apply Kd.R_drewN | apply Kd.R_drew)); exact (Kd.R_mono (Kd.R_far (p := ⟨gb487, 1, none⟩) (Kd.R_far (p := ⟨gb487, 0, none⟩) (Kd.R_types Q450_0.1 BK487.1 (by decide)) (fun _ hk => hk.2) (.slice Ao124 t480.length co124)) (fun _ hk => hk.2) (.slice Ao130 t483.length co130)) (fun _ h_ => h_.1))) hb); have n3_ := Aside0.mk (Kd.R_below (by (with_reducible repeat (first | apply Kd.R_alloc | apply Kd.R_drewN | apply Kd.R_drew)); exact (Kd.R_mono (Kd.R_far (p := ⟨gb487, 1, none⟩) (Kd.R_far (p := ⟨gb487, 0, none⟩) (Kd.R_types Q450_1.1 BK487.1 (by decide)) (fun _ hk => hk.2) (.slice Ao124 t480.length co124)) (fun _ hk => hk.2) (.slice Ao130 t483.length co130)) (fun _ h_ => h_.1))) hb); have n4_ := Aside0.mk (Kd.R_below (by (with_reducible repeat (first | apply Kd.R_alloc | apply Kd.R_drewN | apply Kd.R_drew)); exact (Kd.R_mono (Kd.R_far (p := ⟨gb487, 1, none⟩) (Kd.R_far (p := ⟨gb487, 0, none⟩) (Kd.R_types Q458_0.1 BK487.1 (by decide)) (fun _ hk => hk.2) (.slice Ao124 t480.length co124)) (fun _ hk => hk.2) (.slice Ao130 t483.length co130)) (fun _ h_ => h_.1))) hb); have n5_ := Aside0.mk (Kd.R_below (by (with_reducible repeat (first | apply Kd.R_alloc | apply Kd.R_drewN | apply Kd.R_drew)); exact (Kd.R_mono (Kd.R_far (p := ⟨gb487, 1, none⟩) (Kd.R_far (p := ⟨gb487, 0, none⟩) (Kd.R_types Q458_1.1 BK487.1 (by decide)) (fun _ hk => hk.2) (.slice Ao124 t480.length co124)) (fun _ hk => hk.2) (.slice Ao130 t483.length co130)) (fun _ h_ => h_.1))) hb); have n6_ := Aside0.mk (Kd.R_below (by (with_reducible repeat (first | apply Kd.R_alloc | apply Kd.R_drewN | apply Kd.R_drew)); exact (Kd.R_mono (Kd.R_far (p := ⟨gb487, 1, none⟩) (Kd.R_far (p := ⟨gb487, 0, none⟩) (Kd.R_types HO476.1 BK487.1 (by decide)) (fun _ hk => hk.2) (.slice Ao124 t480.length co124)) (fun _ hk => hk.2) (.slice Ao130 t483.length co130)) (fun _ h_ => h_.1))) hb); have n7_ := Aside0.mk (Kd.R_below (by (with_reducible repeat (first | apply Kd.R_alloc | apply Kd.R_drewN | apply Kd.R_drew)); exact (Kd.R_mono (Kd.R_far (p := ⟨gb487, 1, none⟩) (Kd.R_far (p := ⟨gb487, 0, none⟩) (Kd.R_types HO479.1 BK487.1 (by decide)) (fun _ hk => hk.2) (.slice Ao124 t480.length co124)) (fun _ hk => hk.2) (.slice Ao130 t483.length co130)) (fun _ h_ => h_.1))) hb); have n8_ := Aside0.mk (Kd.R_below (by (with_reducible repeat (first | apply Kd.R_alloc | apply Kd.R_drewN | apply Kd.R_drew)); exact (Kd.R_mono (Kd.R_far (p := ⟨gb487, 1, none⟩) (Kd.R_far (p := ⟨gb487, 0, none⟩) (Kd.R_types HO482.1 BK487.1 (by decide)) (fun _ hk => hk.2) (.slice Ao124 t480.length co124)) (fun _ hk => hk.2) (.slice Ao130 t483.length co130)) (fun _ h_ => h_.1))) hb); have n9_ := Aside0.mk (Kd.R_below (by (with_reducible repeat (first | apply Kd.R_alloc | apply Kd.R_drewN | apply Kd.R_drew)); exact (Kd.R_mono (Kd.R_far (p := ⟨gb487, 1, none⟩) (Kd.R_far (p := ⟨gb487, 0, none⟩) (Kd.R_types HO485.1 BK487.1 (by decide)) (fun _ hk => hk.2) (.slice Ao124 t480.length co124)) (fun _ hk => hk.2) (.slice Ao130 t483.length co130)) (fun _ h_ => h_.1))) hb); have n10_ := Aside0.mk (blk_below (g := gb427) (o := .cells #[.slice A0_0 l0_0.length c0_0, .slice A0_1 l0_1.length c0_1] 24 (0, 0)) (by (with_reducible repeat (first | refine blk_drewN ?_ _ | refine blk_drew ?_ | refine blk_alloc ?_ _)); refine blk_far ?_ NB427_487.1 _; (with_reducible repeat (first | refine blk_drewN ?_ _ | refine blk_drew ?_ | refine blk_alloc ?_ _)); refine blk_far ?_ NB427_487.1 _; (with_reducible repeat (first | refine blk_drewN ?_ _ | refine blk_drew ?_ | refine blk_alloc ?_ _)); exact BK427.1) hb); have n11_ := Aside0.mk (blk_below (g := gb442) (o := .cells #[.slice Ao21 t435.length co21, .slice Ao24 t438.length co24] 28 (0, 0)) (by (with_reducible repeat (first | refine blk_drewN ?_ _ | refine blk_drew ?_ | refine blk_alloc ?_ _)); refine blk_far ?_ NB442_487.1 _; (with_reducible repeat (first | refine blk_drewN ?_ _ | refine blk_drew ?_ | refine blk_alloc ?_ _)); refine blk_far ?_ NB442_487.1 _; (with_reducible repeat (first | refine blk_drewN ?_ _ | refine blk_drew ?_ | refine blk_alloc ?_ _)); exact BK442.1) hb); have n12_ := Aside0.mk (blk_below (g := gb449) (o := .cells #[.slice Ao28 t467.length co28, .slice Ao32 t468.length co32] 28 (0, 0)) (by (with_reducible repeat (first | refine blk_drewN ?_ _ | refine blk_drew ?_ | refine blk_alloc ?_ _)); refine blk_far ?_ NB449_487.1 _; (with_reducible repeat (first | refine blk_drewN ?_ _ | refine blk_drew ?_ | refine blk_alloc ?_ _)); refine blk_far ?_ NB449_487.1 _; (with_reducible repeat (first | refine blk_drewN ?_ _ | refine blk_drew ?_ | refine blk_alloc ?_ _)); exact BK449.1) hb); have n13_ := Aside0.mk (blk_below (g := gb457) (o := .cells #[.slice Ao35 t450.length co35, .slice Ao40 t453.length co40] 28 (0, 0)) (by (with_reducible repeat (first | refine blk_drewN ?_ _ | refine blk_drew ?_ | refine blk_alloc ?_ _)); refine blk_far ?_ NB457_487.1 _; (with_reducible repeat (first | refine blk_drewN ?_ _ | refine blk_drew ?_ | refine blk_alloc ?_ _)); refine blk_far ?_ NB457_487.1 _; (with_reducible repeat (first | refine blk_drewN ?_ _ | refine blk_drew ?_ | refine blk_alloc ?_ _)); exact BK457.1) hb); have n14_ := Aside0.mk (blk_below (g := gb487) (o := .cells #[.slice Ao124 t480.length co124, .slice Ao130 t483.length co130] 28 (0, 0)) (by (with_reducible repeat (first | refine blk_drewN ?_ _ | refine blk_drew ?_ | refine blk_alloc ?_ _)); refine blk_put (cs := #[.slice Ao124 t480.length co124, .slice none 0 0]) ?_ 1 _ rfl; (with_reducible repeat (first | refine blk_drewN ?_ _ | refine blk_drew ?_ | refine blk_alloc ?_ _)); refine blk_put (cs := #[.slice none 0 0, .slice none 0 0]) ?_ 0 _ rfl; (with_reducible repeat (first | refine blk_drewN ?_ _ | refine blk_drew ?_ | refine blk_alloc ?_ _)); exact BK487.1) hb); have n15_ := Aside0.mk (below_step (by repeat (first | (with_reducible first | exact HB.1 | apply below_alloc | apply pw_below_drewN | apply below_drew1 | refine below_set ?_ GE427.1 | refine below_set ?_ GE442.1 | refine below_set ?_ GE449.1 | refine below_set ?_ GE457.1 | refine below_set ?_ GE487.1) | exact HB.1)) hb); clear Q443_0; clear Q443_1; clear Q450_0; clear Q450_1; clear Q458_0; clear Q458_1; clear HO476; clear HO479; clear HO482; clear HO485; clear BK427; clear BK442; clear BK449; clear BK457; clear BK487; clear HB; have Q443_0 := n0_; have Q443_1 := n1_; have Q450_0 := n2_; have Q450_1 := n3_; have Q458_0 := n4_; have Q458_1 := n5_; have HO476 := n6_; have HO479 := n7_; have HO482 := n8_; have HO485 := n9_; have BK427 := n10_; have BK442 := n11_; have BK449 := n12_; have BK457 := n13_; have BK487 := n14_; have HB := n15_; clear n0_ n1_ n2_ n3_ n4_ n5_ n6_ n7_ n8_ n9_ n10_ n11_ n12_ n13_ n14_ n15_; (try clear hb); (try clear hb2); (try clear hk); (try clear hi)))
             go_meet
             case rel => exact ⟨_, (true), (by first | rfl | (simp; done) | (simp [*]; done) | (simp [Go.IntWalk.i64_left]; done)), H', ⟨by have := HJ10.1; have := HJ63.1; first | omega | exact Nat.le_refl _⟩, ⟨by (try simp only [hl450000_63]); (try simp only [hl450001_63]); (with_reducible repeat (first | apply Kd.R_alloc | apply Kd.R_drewN | apply Kd.R_drew)); exact Kd.R_mono Q443_0.1 (fun _ hk => ⟨hk.1.1.1.1.1, ⟨hk.1.1.1.1.2.1, ⟨hk.1.1.1.1.2.2.1, ⟨hk.1.1.1.1.2.2.2.1, ⟨hk.1.1.1.1.2.2.2.2, ⟨hk.1.2, hk.2⟩⟩⟩⟩⟩⟩)⟩, ⟨by (try simp only [hl450000_63]); (try simp only [hl450001_63]); (with_reducible repeat (first | apply Kd.R_alloc | apply Kd.R_drewN | apply Kd.R_drew)); exact Kd.R_mono Q443_1.1 (fun _ hk => ⟨hk.1.1.1.1.1, ⟨hk.1.1.1.1.2.1, ⟨hk.1.1.1.1.2.2.1, ⟨hk.1.1.1.1.2.2.2.1, ⟨hk.1.1.1.1.2.2.2.2, ⟨hk.1.2, hk.2⟩⟩⟩⟩⟩⟩)⟩, ⟨by (try simp only [hl450000_63]); (try simp only [hl450001_63]); (with_reducible repeat (first | apply Kd.R_alloc | apply Kd.R_drewN | apply Kd.R_drew)); exact Kd.R_mono Q450_0.1 (fun _ hk => ⟨hk.1.1.1.1.1, ⟨hk.1.1.1.1.2.1, ⟨hk.1.1.1.1.2.2.1, ⟨hk.1.1.1.1.2.2.2.1, ⟨hk.1.1.1.1.2.2.2.2, ⟨hk.1.2, hk.2⟩⟩⟩⟩⟩⟩)⟩, ⟨by (try simp only [hl450000_63]); (try simp only [hl450001_63]); (with_reducible repeat (first | apply Kd.R_alloc | apply Kd.R_drewN | apply Kd.R_drew)); exact Kd.R_mono Q450_1.1 (fun _ hk => ⟨hk.1.1.1.1.1, ⟨hk.1.1.1.1.2.1, ⟨hk.1.1.1.1.2.2.1, ⟨hk.1.1.1.1.2.2.2.1, ⟨hk.1.1.1.1.2.2.2.2, ⟨hk.1.2, hk.2⟩⟩⟩⟩⟩⟩)⟩, ⟨by (try simp only [hl450000_63]); (try simp only [hl450001_63]); (with_reducible repeat (first | apply Kd.R_alloc | apply Kd.R_drewN | apply Kd.R_drew)); exact Kd.R_mono Q458_0.1 (fun _ hk => ⟨hk.1.1.1.1.1, ⟨hk.1.1.1.1.2.1, ⟨hk.1.1.1.1.2.2.1, ⟨hk.1.1.1.1.2.2.2.1, ⟨hk.1.1.1.1.2.2.2.2, ⟨hk.1.2, hk.2⟩⟩⟩⟩⟩⟩)⟩, ⟨by (try simp only [hl450000_63]); (try simp only [hl450001_63]); (with_reducible repeat (first | apply Kd.R_alloc | apply Kd.R_drewN | apply Kd.R_drew)); exact Kd.R_mono Q458_1.1 (fun _ hk => ⟨hk.1.1.1.1.1, ⟨hk.1.1.1.1.2.1, ⟨hk.1.1.1.1.2.2.1, ⟨hk.1.1.1.1.2.2.2.1, ⟨hk.1.1.1.1.2.2.2.2, ⟨hk.1.2, hk.2⟩⟩⟩⟩⟩⟩)⟩, ⟨by (try simp only [hl450000_63]); (try simp only [hl450001_63]); (with_reducible repeat (first | apply Kd.R_alloc | apply Kd.R_drewN | apply Kd.R_drew)); exact Kd.R_mono HO482.1 (fun _ hk => ⟨hk.1.1.1.1.1.1.1.2, ⟨hk.1.1.1.1.1.1.2, ⟨hk.1.1.1.1.1.2, ⟨hk.1.1.1.1.2, ⟨hk.1.1.1.2, ⟨hk.1.1.2, hk.1.1.1.1.1.1.1.1⟩⟩⟩⟩⟩⟩)⟩, ⟨by (try simp only [hl450000_63]); (try simp only [hl450001_63]); (with_reducible repeat (first | apply Kd.R_alloc | apply Kd.R_drewN | apply Kd.R_drew)); exact Kd.R_mono HO485.1 (fun _ hk => ⟨hk.1.1.1.1.1.1.1.2, ⟨hk.1.1.1.1.1.1.2, ⟨hk.1.1.1.1.1.2, ⟨hk.1.1.1.1.2, ⟨hk.1.1.1.2, ⟨hk.1.1.2, hk.1.1.1.1.1.1.1.1⟩⟩⟩⟩⟩⟩)⟩, ⟨by (try simp only [hl450000_63]); (try simp only [hl450001_63]); (with_reducible repeat (first | refine blk_drewN ?_ _ | refine blk_drew ?_ | refine blk_alloc ?_ _)); exact BK427.1⟩, ⟨by (try simp only [hl450000_63]); (try simp only [hl450001_63]); (with_reducible repeat (first | refine blk_drewN ?_ _ | refine blk_drew ?_ | refine blk_alloc ?_ _)); exact BK442.1⟩, ⟨by (try simp only [hl450000_63]); (try simp only [hl450001_63]); (with_reducible repeat (first | refine blk_drewN ?_ _ | refine blk_drew ?_ | refine blk_alloc ?_ _)); exact BK449.1⟩, ⟨by (try simp only [hl450000_63]); (try simp only [hl450001_63]); (with_reducible repeat (first | refine blk_drewN ?_ _ | refine blk_drew ?_ | refine blk_alloc ?_ _)); exact BK457.1⟩, ⟨by (try simp only [hl450000_63]); (try simp only [hl450001_63]); (with_reducible repeat (first | refine blk_drewN ?_ _ | refine blk_drew ?_ | refine blk_alloc ?_ _)); exact BK487.1⟩, ⟨by repeat (first | (with_reducible first | exact HB.1 | apply below_alloc | apply pw_below_drewN | apply below_drew1 | refine below_set ?_ GE427.1 | refine below_set ?_ GE442.1 | refine below_set ?_ GE449.1 | refine below_set ?_ GE457.1 | refine below_set ?_ GE487.1) | exact HB.1)⟩⟩
           case rest =>
            clear HC108
            try clear c1
            try clear c2
            try clear p2
            try clear c3
            try clear c3b0
            try clear c4
            try clear c5
            try clear c6
            try clear c7
            try clear c8
            try clear c9
            try clear c10
            try clear c11
            try clear c12
            try clear c13
            try clear c14
            try clear c15
            try clear c17
            try clear c19
            try clear c22
            try clear c28
            try clear c29
            try clear c30
            try clear c36
            try clear c37
            try clear c38
            try clear c39
            try clear c42
            try clear c43
            try clear c44
            try clear c45
            try clear c47
            try clear c48
            try clear c51
            try clear c52
            try clear c53
            try clear c55
            try clear c56
            try clear c59
            try clear c62
            try clear c70
            try clear c71
            try clear c72
            try clear c75
            try clear c75b0
            try clear c77
            try clear c78
            try clear c79
            try clear c80
            try clear c82
            try clear c83
            try clear c86
            try clear c87
            try clear c88
            try clear c90
            try clear c91
            try clear c94
            try clear c97
            try clear c97b0
            try clear c98
            try clear c99
            try clear c100
            try clear c105
            try clear c105b0
            try clear c105b1
            try clear c109
            try clear c110
            try clear c111
            try clear c116
            try clear c117
            try clear c125
            try clear c126
            try clear c127
            try clear c128
            try clear c132
            try clear c133
            try clear c134
            try clear c135
            try clear c136
            try clear c138
            try clear c139
            try clear c140
            try clear c143
            try clear c144
            try clear c145
            try clear c146
            try clear c148
            try clear c149
            try clear c150
            try clear hcz101_0
            try clear hcz101_1
            try clear hcz103_0
            try clear hcz103_1
            try clear hcz112_0
            try clear hcz112_1
            try clear hcz114_0
            try clear hcz114_1
            try clear hcz118_0
            try clear hcz118_1
            try clear hcz129_0
            try clear hcz129_1
            try clear hcz137_0
            try clear hcz137_1
            try clear hcz13_0
            try clear hcz13_1
            try clear hcz141_0
            try clear hcz141_1
            try clear hcz147_0
            try clear hcz147_1
            try clear hcz151_0
            try clear hcz151_1
            try clear hcz15_0
            try clear hcz15_1
            try clear hcz23_0
            try clear hcz23_1
            try clear hcz25_0
            try clear hcz25_1
            try clear hcz31_0
            try clear hcz31_1
            try clear hcz39_0
            try clear hcz39_1
            try clear hcz46_0
            try clear hcz46_1
            try clear hcz49_0
            try clear hcz49_1
            try clear hcz54_0
            try clear hcz54_1
            try clear hcz57_0
            try clear hcz57_1
            try clear hcz5_0
            try clear hcz5_1
            try clear hcz73_0
            try clear hcz73_1
            try clear hcz81_0
            try clear hcz81_1
            try clear hcz84_0
            try clear hcz84_1
            try clear hcz89_0
            try clear hcz89_1
            try clear hcz92_0
            try clear hcz92_1
            try clear hfz101_0
            try clear hfz101_1
            try clear hfz103_0
            try clear hfz103_1
            try clear hfz112_0
            try clear hfz112_1
            try clear hfz114_0
            try clear hfz114_1
            try clear hfz118_0
            try clear hfz118_1
            try clear hfz129_0
            try clear hfz129_1
            try clear hfz137_0
            try clear hfz137_1
            try clear hfz13_0
            try clear hfz13_1
            try clear hfz141_0
            try clear hfz141_1
            try clear hfz147_0
            try clear hfz147_1
            try clear hfz151_0
            try clear hfz151_1
            try clear hfz15_0
            try clear hfz15_1
            try clear hfz23_0
            try clear hfz23_1
            try clear hfz25_0
            try clear hfz25_1
            try clear hfz31_0
            try clear hfz31_1
            try clear hfz39_0
            try clear hfz39_1
            try clear hfz46_0
            try clear hfz46_1
            try clear hfz49_0
            try clear hfz49_1
            try clear hfz54_0
            try clear hfz54_1
            try clear hfz57_0
            try clear hfz57_1
            try clear hfz5_0
            try clear hfz5_1
            try clear hfz73_0
            try clear hfz73_1
            try clear hfz81_0
            try clear hfz81_1
            try clear hfz84_0
            try clear hfz84_1
            try clear hfz89_0
            try clear hfz89_1
            try clear hfz92_0
            try clear hfz92_1
            try clear p2
            obtain ⟨kq, x87_107, rfl, HA, HJ107, Q443_0, Q443_1, Q450_0, Q450_1, Q458_0, Q458_1, Q488_0, Q488_1, BK427, BK442, BK449, BK457, BK487, HB⟩ := hcut
            have hl458000_107 := (Kd.R_reads' Q458_0.1).1
            rw [hl458000_107] at Q458_0
            (try simp only [hl458000_107])
            (try simp only [hl458000_107] at BK427)
            (try simp only [hl458000_107] at BK442)
            (try simp only [hl458000_107] at BK449)
            (try simp only [hl458000_107] at BK457)
            (try simp only [hl458000_107] at BK487)
            (try simp only [hl458000_107] at Q443_0)
            (try simp only [hl458000_107] at Q443_1)
            (try simp only [hl458000_107] at Q450_0)
            (try simp only [hl458000_107] at Q450_1)
            (try simp only [hl458000_107] at Q458_1)
            (try simp only [hl458000_107] at Q488_0)
            (try simp only [hl458000_107] at Q488_1)
            have hl458001_107 := (Kd.R_reads' Q458_1.1).1
            rw [hl458001_107] at Q458_1
            (try simp only [hl458001_107])
            (try simp only [hl458001_107] at BK427)
            (try simp only [hl458001_107] at BK442)
            (try simp only [hl458001_107] at BK449)
            (try simp only [hl458001_107] at BK457)
            (try simp only [hl458001_107] at BK487)
            (try simp only [hl458001_107] at Q443_0)
            (try simp only [hl458001_107] at Q443_1)
            (try simp only [hl458001_107] at Q450_0)
            (try simp only [hl458001_107] at Q450_1)
            (try simp only [hl458001_107] at Q458_0)
            (try simp only [hl458001_107] at Q488_0)
            (try simp only [hl458001_107] at Q488_1)
            cases kq with
            | zero => exact absurd HA.1 (by simp [laws_FnExactLooseGloves.j2])
            | succ kj107 =>
             have H := HA.1
             clear HA
             simp only [laws_FnExactLooseGloves.j2] at H
             by_cases c153 : x87_107 = true
             ·subst c153
              have H1 : (some false) = some r := by rw [if_pos rfl] at H; exact H
              clear H
              have H := H1
              clear H1
              obtain rfl := Option.some.inj H
              go_wp2
              go_ret
              exact ⟨by first | rfl | (simp [errW_none, errW_some] <;> rfl) | (simp [Go.IntWalk.i64_left]; done) | (simp [*, errW_none, errW_some] <;> rfl), by repeat (first | (with_reducible first | exact HB.1 | apply below_alloc | apply pw_below_drewN | apply below_drew1 | refine below_set ?_ GE427.1 | refine below_set ?_ GE442.1 | refine below_set ?_ GE449.1 | refine below_set ?_ GE457.1 | refine below_set ?_ GE487.1) | exact HB.1)⟩
             ·replace c153 := Bool.eq_false_iff.mpr c153
              subst c153
              have H1 : ((laws_heldGloves.f kj107 t471 t472 1).bind fun t489 => (if t489 < 0 then (some false) else (if t489 = t470 then (some true) else (some false)))) = some r := by rw [if_neg (show ¬ (false = true) by decide)] at H; exact H
              clear H
              have H := H1
              clear H1
              replace H := Option.bind_eq_some_iff.mp H
              obtain ⟨t489, A1540, H⟩ := H
              replace H : (if t489 < 0 then (some false) else (if t489 = t470 then (some true) else (some false))) = some r := H
              have A154 := Aside0.mk A1540
              clear A1540
              by_cases c155 : t489 < 0
              ·rw [if_pos c155] at H
               have c155b0 : decide (t489 < 0) = true := decide_eq_true c155
               clear c155
               obtain rfl := Option.some.inj H
               have hnb156 := NB457_427.1
               have hnc156 := NB427_457.1
               have hnb157 := NB457_442.1
               have hnc157 := NB442_457.1
               have hnb158 := NB457_449.1
               have hnc158 := NB449_457.1
               have hnb159 := NB457_487.1
               have hnc159 := NB487_457.1
               have hcz160_0 : wc.cell? ⟨gb457, 0, none⟩ = some (.slice Ao35 t471.length co35) := (blk_cell BK457.1 0).trans rfl
               have hcz160_1 : wc.cell? ⟨gb457, 1, none⟩ = some (.slice Ao40 t472.length co40) := (blk_cell BK457.1 1).trans rfl
               have hfz160_0 := blk_frozen BK457.1 0
               have hfz160_1 := blk_frozen BK457.1 1
               go_wp2_with (first | ((with_reducible refine gate_callee (f := 29) rfl ?_); refine goesL_ (some 90) rfl rfl Try.func29 (by kernel_rfl) rfl #[.agg #[.slice Ao35 t471.length co35, .slice Ao40 t472.length co40], .int .i64 1] rfl (by (try simp only [List.map_toArray, List.map_cons, List.map_nil]); first | done | rfl | (simp only [List.length_drop, List.length_take]; rfl)) ?_; (with_reducible refine (laws_heldGloves.calls kj107 _ _ t471 _ _ t472 1 t489 _ ?side1 ?side2 ?side3 ?side4 A154.1).mono ?_); (case side1 => repeat (first | exact (Kd.R_reads' Q458_0.1).2.2 | (with_reducible refine Kd.C_alloc ?_ _) | (with_reducible refine Kd.C_drewN ?_ _) | (with_reducible refine Kd.C_drew ?_))); (case side2 => exact (Kd.R_reads' Q458_0.1).2.1); (case side3 => repeat (first | exact (Kd.R_reads' Q458_1.1).2.2 | (with_reducible refine Kd.C_alloc ?_ _) | (with_reducible refine Kd.C_drewN ?_ _) | (with_reducible refine Kd.C_drew ?_))); (case side4 => exact (Kd.R_reads' Q458_1.1).2.1); rintro e w161 ⟨rfl, hb⟩; refine ⟨_, rfl, ?_⟩; have n0_ := Aside0.mk (Kd.R_below (by (with_reducible repeat (first | apply Kd.R_alloc | apply Kd.R_drewN | apply Kd.R_drew)); exact Q443_0.1) hb); have n1_ := Aside0.mk (Kd.R_below (by (with_reducible repeat (first | apply Kd.R_alloc | apply Kd.R_drewN | apply Kd.R_drew)); exact Q443_1.1) hb); have n2_ := Aside0.mk (Kd.R_below (by (with_reducible repeat (first | apply Kd.R_alloc | apply Kd.R_drewN | apply Kd.R_drew)); exact Q450_0.1) hb); have n3_ := Aside0.mk (Kd.R_below (by (with_reducible repeat (first | apply Kd.R_alloc | apply Kd.R_drewN | apply Kd.R_drew)); exact Q450_1.1) hb); have n4_ := Aside0.mk (Kd.R_below (by (with_reducible repeat (first | apply Kd.R_alloc | apply Kd.R_drewN | apply Kd.R_drew)); exact Q458_0.1) hb); have n5_ := Aside0.mk (Kd.R_below (by (with_reducible repeat (first | apply Kd.R_alloc | apply Kd.R_drewN | apply Kd.R_drew)); exact Q458_1.1) hb); have n6_ := Aside0.mk (Kd.R_below (by (with_reducible repeat (first | apply Kd.R_alloc | apply Kd.R_drewN | apply Kd.R_drew)); exact Q488_0.1) hb); have n7_ := Aside0.mk (Kd.R_below (by (with_reducible repeat (first | apply Kd.R_alloc | apply Kd.R_drewN | apply Kd.R_drew)); exact Q488_1.1) hb); have n8_ := Aside0.mk (blk_below (g := gb427) (o := .cells #[.slice A0_0 l0_0.length c0_0, .slice A0_1 l0_1.length c0_1] 24 (0, 0)) (by (with_reducible repeat (first | refine blk_drewN ?_ _ | refine blk_drew ?_ | refine blk_alloc ?_ _)); exact BK427.1) hb); have n9_ := Aside0.mk (blk_below (g := gb442) (o := .cells #[.slice Ao21 t435.length co21, .slice Ao24 t438.length co24] 28 (0, 0)) (by (with_reducible repeat (first | refine blk_drewN ?_ _ | refine blk_drew ?_ | refine blk_alloc ?_ _)); exact BK442.1) hb); have n10_ := Aside0.mk (blk_below (g := gb449) (o := .cells #[.slice Ao28 t467.length co28, .slice Ao32 t468.length co32] 28 (0, 0)) (by (with_reducible repeat (first | refine blk_drewN ?_ _ | refine blk_drew ?_ | refine blk_alloc ?_ _)); exact BK449.1) hb); have n11_ := Aside0.mk (blk_below (g := gb457) (o := .cells #[.slice Ao35 t471.length co35, .slice Ao40 t472.length co40] 28 (0, 0)) (by (with_reducible repeat (first | refine blk_drewN ?_ _ | refine blk_drew ?_ | refine blk_alloc ?_ _)); exact BK457.1) hb); have n12_ := Aside0.mk (blk_below (g := gb487) (o := .cells #[.slice Ao124 t480.length co124, .slice Ao130 t483.length co130] 28 (0, 0)) (by (with_reducible repeat (first | refine blk_drewN ?_ _ | refine blk_drew ?_ | refine blk_alloc ?_ _)); exact BK487.1) hb); have n13_ := Aside0.mk (below_step (by repeat (first | (with_reducible first | exact HB.1 | apply below_alloc | apply pw_below_drewN | apply below_drew1 | refine below_set ?_ GE427.1 | refine below_set ?_ GE442.1 | refine below_set ?_ GE449.1 | refine below_set ?_ GE457.1 | refine below_set ?_ GE487.1) | exact HB.1)) hb); clear Q443_0; clear Q443_1; clear Q450_0; clear Q450_1; clear Q458_0; clear Q458_1; clear Q488_0; clear Q488_1; clear BK427; clear BK442; clear BK449; clear BK457; clear BK487; clear HB; have Q443_0 := n0_; have Q443_1 := n1_; have Q450_0 := n2_; have Q450_1 := n3_; have Q458_0 := n4_; have Q458_1 := n5_; have Q488_0 := n6_; have Q488_1 := n7_; have BK427 := n8_; have BK442 := n9_; have BK449 := n10_; have BK457 := n11_; have BK487 := n12_; have HB := n13_; clear n0_ n1_ n2_ n3_ n4_ n5_ n6_ n7_ n8_ n9_ n10_ n11_ n12_ n13_; (try clear hb); (try clear hb2); (try clear hk); (try clear hi)))
               go_ret
               exact ⟨by first | rfl | (simp [errW_none, errW_some] <;> rfl) | (simp [Go.IntWalk.i64_left]; done) | (simp [*, errW_none, errW_some] <;> rfl), by repeat (first | (with_reducible first | exact HB.1 | apply below_alloc | apply pw_below_drewN | apply below_drew1 | refine below_set ?_ GE427.1 | refine below_set ?_ GE442.1 | refine below_set ?_ GE449.1 | refine below_set ?_ GE457.1 | refine below_set ?_ GE487.1) | exact HB.1)⟩
              ·rw [if_neg c155] at H
               have c155b0 : decide (t489 < 0) = false := decide_eq_false c155
               clear c155
               by_cases c162 : t489 = t470
               ·rw [if_pos c162] at H
                have c162b0 : (t489 == t470) = true := beq_iff_eq.mpr c162
                have c162b1 : (t489 != t470) = false := bne_eq_false_iff_eq.mpr c162
                clear c162
                obtain rfl := Option.some.inj H
                have hnb163 := NB457_427.1
                have hnc163 := NB427_457.1
                have hnb164 := NB457_442.1
                have hnc164 := NB442_457.1
                have hnb165 := NB457_449.1
                have hnc165 := NB449_457.1
                have hnb166 := NB457_487.1
                have hnc166 := NB487_457.1
                have hcz167_0 : wc.cell? ⟨gb457, 0, none⟩ = some (.slice Ao35 t471.length co35) := (blk_cell BK457.1 0).trans rfl
                have hcz167_1 : wc.cell? ⟨gb457, 1, none⟩ = some (.slice Ao40 t472.length co40) := (blk_cell BK457.1 1).trans rfl
                have hfz167_0 := blk_frozen BK457.1 0
                have hfz167_1 := blk_frozen BK457.1 1
                go_wp2_with (first | ((with_reducible refine gate_callee (f := 29) rfl ?_); refine goesL_ (some 90) rfl rfl Try.func29 (by kernel_rfl) rfl #[.agg #[.slice Ao35 t471.length co35, .slice Ao40 t472.length co40], .int .i64 1] rfl (by (try simp only [List.map_toArray, List.map_cons, List.map_nil]); first | done | rfl | (simp only [List.length_drop, List.length_take]; rfl)) ?_; (with_reducible refine (laws_heldGloves.calls kj107 _ _ t471 _ _ t472 1 t489 _ ?side1 ?side2 ?side3 ?side4 A154.1).mono ?_); (case side1 => repeat (first | exact (Kd.R_reads' Q458_0.1).2.2 | (with_reducible refine Kd.C_alloc ?_ _) | (with_reducible refine Kd.C_drewN ?_ _) | (with_reducible refine Kd.C_drew ?_))); (case side2 => exact (Kd.R_reads' Q458_0.1).2.1); (case side3 => repeat (first | exact (Kd.R_reads' Q458_1.1).2.2 | (with_reducible refine Kd.C_alloc ?_ _) | (with_reducible refine Kd.C_drewN ?_ _) | (with_reducible refine Kd.C_drew ?_))); (case side4 => exact (Kd.R_reads' Q458_1.1).2.1); rintro e w168 ⟨rfl, hb⟩; refine ⟨_, rfl, ?_⟩; have n0_ := Aside0.mk (Kd.R_below (by (with_reducible repeat (first | apply Kd.R_alloc | apply Kd.R_drewN | apply Kd.R_drew)); exact Q443_0.1) hb); have n1_ := Aside0.mk (Kd.R_below (by (with_reducible repeat (first | apply Kd.R_alloc | apply Kd.R_drewN | apply Kd.R_drew)); exact Q443_1.1) hb); have n2_ := Aside0.mk (Kd.R_below (by (with_reducible repeat (first | apply Kd.R_alloc | apply Kd.R_drewN | apply Kd.R_drew)); exact Q450_0.1) hb); have n3_ := Aside0.mk (Kd.R_below (by (with_reducible repeat (first | apply Kd.R_alloc | apply Kd.R_drewN | apply Kd.R_drew)); exact Q450_1.1) hb); have n4_ := Aside0.mk (Kd.R_below (by (with_reducible repeat (first | apply Kd.R_alloc | apply Kd.R_drewN | apply Kd.R_drew)); exact Q458_0.1) hb); have n5_ := Aside0.mk (Kd.R_below (by (with_reducible repeat (first | apply Kd.R_alloc | apply Kd.R_drewN | apply Kd.R_drew)); exact Q458_1.1) hb); have n6_ := Aside0.mk (Kd.R_below (by (with_reducible repeat (first | apply Kd.R_alloc | apply Kd.R_drewN | apply Kd.R_drew)); exact Q488_0.1) hb); have n7_ := Aside0.mk (Kd.R_below (by (with_reducible repeat (first | apply Kd.R_alloc | apply Kd.R_drewN | apply Kd.R_drew)); exact Q488_1.1) hb); have n8_ := Aside0.mk (blk_below (g := gb427) (o := .cells #[.slice A0_0 l0_0.length c0_0, .slice A0_1 l0_1.length c0_1] 24 (0, 0)) (by (with_reducible repeat (first | refine blk_drewN ?_ _ | refine blk_drew ?_ | refine blk_alloc ?_ _)); exact BK427.1) hb); have n9_ := Aside0.mk (blk_below (g := gb442) (o := .cells #[.slice Ao21 t435.length co21, .slice Ao24 t438.length co24] 28 (0, 0)) (by (with_reducible repeat (first | refine blk_drewN ?_ _ | refine blk_drew ?_ | refine blk_alloc ?_ _)); exact BK442.1) hb); have n10_ := Aside0.mk (blk_below (g := gb449) (o := .cells #[.slice Ao28 t467.length co28, .slice Ao32 t468.length co32] 28 (0, 0)) (by (with_reducible repeat (first | refine blk_drewN ?_ _ | refine blk_drew ?_ | refine blk_alloc ?_ _)); exact BK449.1) hb); have n11_ := Aside0.mk (blk_below (g := gb457) (o := .cells #[.slice Ao35 t471.length co35, .slice Ao40 t472.length co40] 28 (0, 0)) (by (with_reducible repeat (first | refine blk_drewN ?_ _ | refine blk_drew ?_ | refine blk_alloc ?_ _)); exact BK457.1) hb); have n12_ := Aside0.mk (blk_below (g := gb487) (o := .cells #[.slice Ao124 t480.length co124, .slice Ao130 t483.length co130] 28 (0, 0)) (by (with_reducible repeat (first | refine blk_drewN ?_ _ | refine blk_drew ?_ | refine blk_alloc ?_ _)); exact BK487.1) hb); have n13_ := Aside0.mk (below_step (by repeat (first | (with_reducible first | exact HB.1 | apply below_alloc | apply pw_below_drewN | apply below_drew1 | refine below_set ?_ GE427.1 | refine below_set ?_ GE442.1 | refine below_set ?_ GE449.1 | refine below_set ?_ GE457.1 | refine below_set ?_ GE487.1) | exact HB.1)) hb); clear Q443_0; clear Q443_1; clear Q450_0; clear Q450_1; clear Q458_0; clear Q458_1; clear Q488_0; clear Q488_1; clear BK427; clear BK442; clear BK449; clear BK457; clear BK487; clear HB; have Q443_0 := n0_; have Q443_1 := n1_; have Q450_0 := n2_; have Q450_1 := n3_; have Q458_0 := n4_; have Q458_1 := n5_; have Q488_0 := n6_; have Q488_1 := n7_; have BK427 := n8_; have BK442 := n9_; have BK449 := n10_; have BK457 := n11_; have BK487 := n12_; have HB := n13_; clear n0_ n1_ n2_ n3_ n4_ n5_ n6_ n7_ n8_ n9_ n10_ n11_ n12_ n13_; (try clear hb); (try clear hb2); (try clear hk); (try clear hi)))
                go_ret
                exact ⟨by first | rfl | (simp [errW_none, errW_some] <;> rfl) | (simp [Go.IntWalk.i64_left]; done) | (simp [*, errW_none, errW_some] <;> rfl), by repeat (first | (with_reducible first | exact HB.1 | apply below_alloc | apply pw_below_drewN | apply below_drew1 | refine below_set ?_ GE427.1 | refine below_set ?_ GE442.1 | refine below_set ?_ GE449.1 | refine below_set ?_ GE457.1 | refine below_set ?_ GE487.1) | exact HB.1)⟩
               ·rw [if_neg c162] at H
                have c162b0 : (t489 == t470) = false := beq_eq_false_iff_ne.mpr c162
                have c162b1 : (t489 != t470) = true := bne_iff_ne.mpr c162
                obtain rfl := Option.some.inj H
                have hnb169 := NB457_427.1
                have hnc169 := NB427_457.1
                have hnb170 := NB457_442.1
                have hnc170 := NB442_457.1
                have hnb171 := NB457_449.1
                have hnc171 := NB449_457.1
                have hnb172 := NB457_487.1
                have hnc172 := NB487_457.1
                have hcz173_0 : wc.cell? ⟨gb457, 0, none⟩ = some (.slice Ao35 t471.length co35) := (blk_cell BK457.1 0).trans rfl
                have hcz173_1 : wc.cell? ⟨gb457, 1, none⟩ = some (.slice Ao40 t472.length co40) := (blk_cell BK457.1 1).trans rfl
                have hfz173_0 := blk_frozen BK457.1 0
                have hfz173_1 := blk_frozen BK457.1 1
                go_wp2_with (first | ((with_reducible refine gate_callee (f := 29) rfl ?_); refine goesL_ (some 90) rfl rfl Try.func29 (by kernel_rfl) rfl #[.agg #[.slice Ao35 t471.length co35, .slice Ao40 t472.length co40], .int .i64 1] rfl (by (try simp only [List.map_toArray, List.map_cons, List.map_nil]); first | done | rfl | (simp only [List.length_drop, List.length_take]; rfl)) ?_; (with_reducible refine (laws_heldGloves.calls kj107 _ _ t471 _ _ t472 1 t489 _ ?side1 ?side2 ?side3 ?side4 A154.1).mono ?_); (case side1 => repeat (first | exact (Kd.R_reads' Q458_0.1).2.2 | (with_reducible refine Kd.C_alloc ?_ _) | (with_reducible refine Kd.C_drewN ?_ _) | (with_reducible refine Kd.C_drew ?_))); (case side2 => exact (Kd.R_reads' Q458_0.1).2.1); (case side3 => repeat (first | exact (Kd.R_reads' Q458_1.1).2.2 | (with_reducible refine Kd.C_alloc ?_ _) | (with_reducible refine Kd.C_drewN ?_ _) | (with_reducible refine Kd.C_drew ?_))); (case side4 => exact (Kd.R_reads' Q458_1.1).2.1); rintro e w174 ⟨rfl, hb⟩; refine ⟨_, rfl, ?_⟩; have n0_ := Aside0.mk (Kd.R_below (by (with_reducible repeat (first | apply Kd.R_alloc | apply Kd.R_drewN | apply Kd.R_drew)); exact Q443_0.1) hb); have n1_ := Aside0.mk (Kd.R_below (by (with_reducible repeat (first | apply Kd.R_alloc | apply Kd.R_drewN | apply Kd.R_drew)); exact Q443_1.1) hb); have n2_ := Aside0.mk (Kd.R_below (by (with_reducible repeat (first | apply Kd.R_alloc | apply Kd.R_drewN | apply Kd.R_drew)); exact Q450_0.1) hb); have n3_ := Aside0.mk (Kd.R_below (by (with_reducible repeat (first | apply Kd.R_alloc | apply Kd.R_drewN | apply Kd.R_drew)); exact Q450_1.1) hb); have n4_ := Aside0.mk (Kd.R_below (by (with_reducible repeat (first | apply Kd.R_alloc | apply Kd.R_drewN | apply Kd.R_drew)); exact Q458_0.1) hb); have n5_ := Aside0.mk (Kd.R_below (by (with_reducible repeat (first | apply Kd.R_alloc | apply Kd.R_drewN | apply Kd.R_drew)); exact Q458_1.1) hb); have n6_ := Aside0.mk (Kd.R_below (by (with_reducible repeat (first | apply Kd.R_alloc | apply Kd.R_drewN | apply Kd.R_drew)); exact Q488_0.1) hb); have n7_ := Aside0.mk (Kd.R_below (by (with_reducible repeat (first | apply Kd.R_alloc | apply Kd.R_drewN | apply Kd.R_drew)); exact Q488_1.1) hb); have n8_ := Aside0.mk (blk_below (g := gb427) (o := .cells #[.slice A0_0 l0_0.length c0_0, .slice A0_1 l0_1.length c0_1] 24 (0, 0)) (by (with_reducible repeat (first | refine blk_drewN ?_ _ | refine blk_drew ?_ | refine blk_alloc ?_ _)); exact BK427.1) hb); have n9_ := Aside0.mk (blk_below (g := gb442) (o := .cells #[.slice Ao21 t435.length co21, .slice Ao24 t438.length co24] 28 (0, 0)) (by (with_reducible repeat (first | refine blk_drewN ?_ _ | refine blk_drew ?_ | refine blk_alloc ?_ _)); exact BK442.1) hb); have n10_ := Aside0.mk (blk_below (g := gb449) (o := .cells #[.slice Ao28 t467.length co28, .slice Ao32 t468.length co32] 28 (0, 0)) (by (with_reducible repeat (first | refine blk_drewN ?_ _ | refine blk_drew ?_ | refine blk_alloc ?_ _)); exact BK449.1) hb); have n11_ := Aside0.mk (blk_below (g := gb457) (o := .cells #[.slice Ao35 t471.length co35, .slice Ao40 t472.length co40] 28 (0, 0)) (by (with_reducible repeat (first | refine blk_drewN ?_ _ | refine blk_drew ?_ | refine blk_alloc ?_ _)); exact BK457.1) hb); have n12_ := Aside0.mk (blk_below (g := gb487) (o := .cells #[.slice Ao124 t480.length co124, .slice Ao130 t483.length co130] 28 (0, 0)) (by (with_reducible repeat (first | refine blk_drewN ?_ _ | refine blk_drew ?_ | refine blk_alloc ?_ _)); exact BK487.1) hb); have n13_ := Aside0.mk (below_step (by repeat (first | (with_reducible first | exact HB.1 | apply below_alloc | apply pw_below_drewN | apply below_drew1 | refine below_set ?_ GE427.1 | refine below_set ?_ GE442.1 | refine below_set ?_ GE449.1 | refine below_set ?_ GE457.1 | refine below_set ?_ GE487.1) | exact HB.1)) hb); clear Q443_0; clear Q443_1; clear Q450_0; clear Q450_1; clear Q458_0; clear Q458_1; clear Q488_0; clear Q488_1; clear BK427; clear BK442; clear BK449; clear BK457; clear BK487; clear HB; have Q443_0 := n0_; have Q443_1 := n1_; have Q450_0 := n2_; have Q450_1 := n3_; have Q458_0 := n4_; have Q458_1 := n5_; have Q488_0 := n6_; have Q488_1 := n7_; have BK427 := n8_; have BK442 := n9_; have BK449 := n10_; have BK457 := n11_; have BK487 := n12_; have HB := n13_; clear n0_ n1_ n2_ n3_ n4_ n5_ n6_ n7_ n8_ n9_ n10_ n11_ n12_ n13_; (try clear hb); (try clear hb2); (try clear hk); (try clear hi)))
                go_ret
                exact ⟨by first | rfl | (simp [errW_none, errW_some] <;> rfl) | (simp [Go.IntWalk.i64_left]; done) | (simp [*, errW_none, errW_some] <;> rfl), by repeat (first | (with_reducible first | exact HB.1 | apply below_alloc | apply pw_below_drewN | apply below_drew1 | refine below_set ?_ GE427.1 | refine below_set ?_ GE442.1 | refine below_set ?_ GE449.1 | refine below_set ?_ GE457.1 | refine below_set ?_ GE487.1) | exact HB.1)⟩
          ·rw [if_neg c105] at H
           have c105b0 : (t473 == t470) = false := beq_eq_false_iff_ne.mpr c105
           have c105b1 : (t473 != t470) = true := bne_iff_ne.mpr c105
           obtain rfl := Option.some.inj H
           have hnb175 := NB457_427.1
           have hnc175 := NB427_457.1
           have hnb176 := NB457_442.1
           have hnc176 := NB442_457.1
           have hnb177 := NB457_449.1
           have hnc177 := NB449_457.1
           have hcz178_0 : wc.cell? ⟨gb457, 0, none⟩ = some (.slice Ao35 t450.length co35) := (blk_cell BK457.1 0).trans rfl
           have hcz178_1 : wc.cell? ⟨gb457, 1, none⟩ = some (.slice Ao40 t453.length co40) := (blk_cell BK457.1 1).trans rfl
           have hfz178_0 := blk_frozen BK457.1 0
           have hfz178_1 := blk_frozen BK457.1 1
           go_wp2_with (first | ((with_reducible refine gate_callee (f := 28) rfl ?_); refine goesL_ (some 64) rfl rfl Try.func28 (by kernel_rfl) rfl #[.agg #[.slice Ao35 t450.length co35, .slice Ao40 t453.length co40], .int .i64 1] rfl (by (try simp only [List.map_toArray, List.map_cons, List.map_nil]); first | done | rfl | (simp only [List.length_drop, List.length_take]; rfl)) ?_; (with_reducible refine (laws_markGloves.calls kj63 (fun k_ => some k_ = (.slice Ao35 t450.length co35 : Value).ownBlock) (.slice Ao35 t450.length co35) t450 (fun k_ => some k_ = (.slice Ao40 t453.length co40 : Value).ownBlock) (.slice Ao40 t453.length co40) t453 1 t470 t471 t472 w _ ?side1 ?side2 ?side3 ?side4 ?side5 A95.1).mono ?_); (case side1 => repeat (first | (with_reducible first | exact HB.1 | apply below_alloc | apply pw_below_drewN | apply below_drew1 | refine below_set ?_ GE427.1 | refine below_set ?_ GE442.1 | refine below_set ?_ GE449.1 | refine below_set ?_ GE457.1) | exact HB.1)); (case side2 => exact Kd.R_tight rfl Q458_0.1); (case side3 => exact fun k_ e_ => (Q458_0.1.1 k_ e_.symm).2.2.2.2); (case side4 => exact Kd.R_tight rfl Q458_1.1); (case side5 => exact fun k_ e_ => (Q458_1.1.1 k_ e_.symm).2.2.2.2); rintro e w179 ⟨rfl, hy0, hy1, hb, hkp⟩; refine ⟨_, rfl, ?_⟩; have n0_ := Aside0.mk (Kd.R_mono (ok' := fun k_ => some k_ ≠ (.slice Ao24 t438.length co24 : Value).ownBlock ∧ some k_ ≠ (.slice Ao28 t467.length co28 : Value).ownBlock ∧ some k_ ≠ (.slice Ao32 t468.length co32 : Value).ownBlock ∧ some k_ ≠ (.slice Ao35 t450.length co35 : Value).ownBlock ∧ some k_ ≠ (.slice Ao40 t453.length co40 : Value).ownBlock) (Kd.R_keptB (Q443_0.1) hkp (fun k_ hk_ hs_ => Or.elim hs_ (fun e_ => (hk_.2.2.2.1) e_) (fun e_ => (hk_.2.2.2.2) e_))) (fun k_ hk_ => ⟨hk_.1.1, hk_.1.2.1, hk_.1.2.2.1, hk_.1.2.2.2.1, hk_.1.2.2.2.2⟩)); have n1_ := Aside0.mk (Kd.R_mono (ok' := fun k_ => some k_ ≠ (.slice Ao21 t435.length co21 : Value).ownBlock ∧ some k_ ≠ (.slice Ao28 t467.length co28 : Value).ownBlock ∧ some k_ ≠ (.slice Ao32 t468.length co32 : Value).ownBlock ∧ some k_ ≠ (.slice Ao35 t450.length co35 : Value).ownBlock ∧ some k_ ≠ (.slice Ao40 t453.length co40 : Value).ownBlock) (Kd.R_keptB (Q443_1.1) hkp (fun k_ hk_ hs_ => Or.elim hs_ (fun e_ => (hk_.2.2.2.1) e_) (fun e_ => (hk_.2.2.2.2) e_))) (fun k_ hk_ => ⟨hk_.1.1, hk_.1.2.1, hk_.1.2.2.1, hk_.1.2.2.2.1, hk_.1.2.2.2.2⟩)); have n2_ := Aside0.mk (Kd.R_mono (ok' := fun k_ => some k_ ≠ (.slice Ao21 t435.length co21 : Value).ownBlock ∧ some k_ ≠ (.slice Ao24 t438.length co24 : Value).ownBlock ∧ some k_ ≠ (.slice Ao32 t468.length co32 : Value).ownBlock ∧ some k_ ≠ (.slice Ao35 t450.length co35 : Value).ownBlock ∧ some k_ ≠ (.slice Ao40 t453.length co40 : Value).ownBlock) (Kd.R_keptB (Q450_0.1) hkp (fun k_ hk_ hs_ => Or.elim hs_ (fun e_ => (hk_.2.2.2.1) e_) (fun e_ => (hk_.2.2.2.2) e_))) (fun k_ hk_ => ⟨hk_.1.1, hk_.1.2.1, hk_.1.2.2.1, hk_.1.2.2.2.1, hk_.1.2.2.2.2⟩)); have n3_ := Aside0.mk (Kd.R_mono (ok' := fun k_ => some k_ ≠ (.slice Ao21 t435.length co21 : Value).ownBlock ∧ some k_ ≠ (.slice Ao24 t438.length co24 : Value).ownBlock ∧ some k_ ≠ (.slice Ao28 t467.length co28 : Value).ownBlock ∧ some k_ ≠ (.slice Ao35 t450.length co35 : Value).ownBlock ∧ some k_ ≠ (.slice Ao40 t453.length co40 : Value).ownBlock) (Kd.R_keptB (Q450_1.1) hkp (fun k_ hk_ hs_ => Or.elim hs_ (fun e_ => (hk_.2.2.2.1) e_) (fun e_ => (hk_.2.2.2.2) e_))) (fun k_ hk_ => ⟨hk_.1.1, hk_.1.2.1, hk_.1.2.2.1, hk_.1.2.2.2.1, hk_.1.2.2.2.2⟩)); have n4_ := Aside0.mk (Kd.R_reok rfl hy0 (fun k_ e_ => Q458_0.1.1 k_ e_)); have n5_ := Aside0.mk (Kd.R_reok rfl hy1 (fun k_ e_ => Q458_1.1.1 k_ e_)); have n6_ := Aside0.mk (blk_kept (by (with_reducible repeat (first | refine blk_drewN ?_ _ | refine blk_drew ?_ | refine blk_alloc ?_ _)); exact BK427.1) hkp (fun hs_ => Or.elim hs_ (fun e_ => (fun e_ => (Kd.R_ne Q458_0.1 BK427.1 (by decide)) e_) e_) (fun e_ => (fun e_ => (Kd.R_ne Q458_1.1 BK427.1 (by decide)) e_) e_))); have n7_ := Aside0.mk (blk_kept (by (with_reducible repeat (first | refine blk_drewN ?_ _ | refine blk_drew ?_ | refine blk_alloc ?_ _)); exact BK442.1) hkp (fun hs_ => Or.elim hs_ (fun e_ => (fun e_ => (Kd.R_ne Q458_0.1 BK442.1 (by decide)) e_) e_) (fun e_ => (fun e_ => (Kd.R_ne Q458_1.1 BK442.1 (by decide)) e_) e_))); have n8_ := Aside0.mk (blk_kept (by (with_reducible repeat (first | refine blk_drewN ?_ _ | refine blk_drew ?_ | refine blk_alloc ?_ _)); exact BK449.1) hkp (fun hs_ => Or.elim hs_ (fun e_ => (fun e_ => (Kd.R_ne Q458_0.1 BK449.1 (by decide)) e_) e_) (fun e_ => (fun e_ => (Kd.R_ne Q458_1.1 BK449.1 (by decide)) e_) e_))); have n9_ := Aside0.mk (blk_kept (by (with_reducible repeat (first | refine blk_drewN ?_ _ | refine blk_drew ?_ | refine blk_alloc ?_ _)); exact BK457.1) hkp (fun hs_ => Or.elim hs_ (fun e_ => (fun e_ => (Kd.R_ne Q458_0.1 BK457.1 (by decide)) e_) e_) (fun e_ => (fun e_ => (Kd.R_ne Q458_1.1 BK457.1 (by decide)) e_) e_))); have n10_ := Aside0.mk (hb); clear Q443_0; clear Q443_1; clear Q450_0; clear Q450_1; clear Q458_0; clear Q458_1; clear BK427; clear BK442; clear BK449; clear BK457; clear HB; have Q443_0 := n0_; have Q443_1 := n1_; have Q450_0 := n2_; have Q450_1 := n3_; have Q458_0 := n4_; have Q458_1 := n5_; have BK427 := n6_; have BK442 := n7_; have BK449 := n8_; have BK457 := n9_; have HB := n10_; clear n0_ n1_ n2_ n3_ n4_ n5_ n6_ n7_ n8_ n9_ n10_; (try clear hb); (try clear hkp); (try clear hy0); (try clear hy1); have hcz180_0 : w179.cell? ⟨gb457, 0, none⟩ = some (.slice Ao35 t450.length co35) := (blk_cell BK457.1 0).trans rfl; have hcz180_1 : w179.cell? ⟨gb457, 1, none⟩ = some (.slice Ao40 t453.length co40) := (blk_cell BK457.1 1).trans rfl; have hfz180_0 := blk_frozen BK457.1 0; have hfz180_1 := blk_frozen BK457.1 1) | ((with_reducible refine gate_callee (f := 29) rfl ?_); refine goesL_ (some 67) rfl rfl Try.func29 (by kernel_rfl) rfl #[.agg #[.slice Ao35 t471.length co35, .slice Ao40 t472.length co40], .int .i64 1] rfl (by (try simp only [List.map_toArray, List.map_cons, List.map_nil]); first | done | (rw [show t471.length = t450.length from (Kd.R_reads' Q458_0.1).1.symm, show t472.length = t453.length from (Kd.R_reads' Q458_1.1).1.symm] <;> rfl) | rfl | (simp only [List.length_drop, List.length_take]; rfl)) ?_; (with_reducible refine (laws_heldGloves.calls kj63 _ _ t471 _ _ t472 1 t473 _ ?side1 ?side2 ?side3 ?side4 A96.1).mono ?_); (case side1 => repeat (first | exact (Kd.R_reads' Q458_0.1).2.2 | (with_reducible refine Kd.C_alloc ?_ _) | (with_reducible refine Kd.C_drewN ?_ _) | (with_reducible refine Kd.C_drew ?_))); (case side2 => rw [show t471.length = t450.length from (Kd.R_reads' Q458_0.1).1.symm]; exact (Kd.R_reads' Q458_0.1).2.1); (case side3 => repeat (first | exact (Kd.R_reads' Q458_1.1).2.2 | (with_reducible refine Kd.C_alloc ?_ _) | (with_reducible refine Kd.C_drewN ?_ _) | (with_reducible refine Kd.C_drew ?_))); (case side4 => rw [show t472.length = t453.length from (Kd.R_reads' Q458_1.1).1.symm]; exact (Kd.R_reads' Q458_1.1).2.1); rintro e w181 ⟨rfl, hb⟩; refine ⟨_, rfl, ?_⟩; have n0_ := Aside0.mk (Kd.R_below (by (with_reducible repeat (first | apply Kd.R_alloc | apply Kd.R_drewN | apply Kd.R_drew)); exact Q443_0.1) hb); have n1_ := Aside0.mk (Kd.R_below (by (with_reducible repeat (first | apply Kd.R_alloc | apply Kd.R_drewN | apply Kd.R_drew)); exact Q443_1.1) hb); have n2_ := Aside0.mk (Kd.R_below (by (with_reducible repeat (first | apply Kd.R_alloc | apply Kd.R_drewN | apply Kd.R_drew)); exact Q450_0.1) hb); have n3_ := Aside0.mk (Kd.R_below (by (with_reducible repeat (first | apply Kd.R_alloc | apply Kd.R_drewN | apply Kd.R_drew)); exact Q450_1.1) hb); have n4_ := Aside0.mk (Kd.R_below (by (with_reducible repeat (first | apply Kd.R_alloc | apply Kd.R_drewN | apply Kd.R_drew)); exact Q458_0.1) hb); have n5_ := Aside0.mk (Kd.R_below (by (with_reducible repeat (first | apply Kd.R_alloc | apply Kd.R_drewN | apply Kd.R_drew)); exact Q458_1.1) hb); have n6_ := Aside0.mk (blk_below (g := gb427) (o := .cells #[.slice A0_0 l0_0.length c0_0, .slice A0_1 l0_1.length c0_1] 24 (0, 0)) (by (with_reducible repeat (first | refine blk_drewN ?_ _ | refine blk_drew ?_ | refine blk_alloc ?_ _)); exact BK427.1) hb); have n7_ := Aside0.mk (blk_below (g := gb442) (o := .cells #[.slice Ao21 t435.length co21, .slice Ao24 t438.length co24] 28 (0, 0)) (by (with_reducible repeat (first | refine blk_drewN ?_ _ | refine blk_drew ?_ | refine blk_alloc ?_ _)); exact BK442.1) hb); have n8_ := Aside0.mk (blk_below (g := gb449) (o := .cells #[.slice Ao28 t467.length co28, .slice Ao32 t468.length co32] 28 (0, 0)) (by (with_reducible repeat (first | refine blk_drewN ?_ _ | refine blk_drew ?_ | refine blk_alloc ?_ _)); exact BK449.1) hb); have n9_ := Aside0.mk (blk_below (g := gb457) (o := .cells #[.slice Ao35 t450.length co35, .slice Ao40 t453.length co40] 28 (0, 0)) (by (with_reducible repeat (first | refine blk_drewN ?_ _ | refine blk_drew ?_ | refine blk_alloc ?_ _)); exact BK457.1) hb); have n10_ := Aside0.mk (below_step (by repeat (first | (with_reducible first | exact HB.1 | apply below_alloc | apply pw_below_drewN | apply below_drew1 | refine below_set ?_ GE427.1 | refine below_set ?_ GE442.1 | refine below_set ?_ GE449.1 | refine below_set ?_ GE457.1) | exact HB.1)) hb); clear Q443_0; clear Q443_1; clear Q450_0; clear Q450_1; clear Q458_0; clear Q458_1; clear BK427; clear BK442; clear BK449; clear BK457; clear HB; have Q443_0 := n0_; have Q443_1 := n1_; have Q450_0 := n2_; have Q450_1 := n3_; have Q458_0 := n4_; have Q458_1 := n5_; have BK427 := n6_; have BK442 := n7_; have BK449 := n8_; have BK457 := n9_; have HB := n10_; clear n0_ n1_ n2_ n3_ n4_ n5_ n6_ n7_ n8_ n9_ n10_; (try clear hb); (try clear hb2); (try clear hk); (try clear hi)))
           go_ret
           exact ⟨by first | rfl | (simp [errW_none, errW_some] <;> rfl) | (simp [Go.IntWalk.i64_left]; done) | (simp [*, errW_none, errW_some] <;> rfl), by repeat (first | (with_reducible first | exact HB.1 | apply below_alloc | apply pw_below_drewN | apply below_drew1 | refine below_set ?_ GE427.1 | refine below_set ?_ GE442.1 | refine below_set ?_ GE449.1 | refine below_set ?_ GE457.1) | exact HB.1)⟩
     ·replace c62 := Bool.eq_false_iff.mpr c62
      subst c62
      have H1 : (some false) = some r := by rw [if_neg (show ¬ (false = true) by decide)] at H; exact H
      clear H
      have H := H1
      clear H1
      obtain rfl := Option.some.inj H
      try go_wp2
      have n0_ := Aside0.mk (Kd.R_drew Q443_0.1)
      have n1_ := Aside0.mk (Kd.R_drew Q443_1.1)
      have n2_ := Aside0.mk (Kd.R_drew Q450_0.1)
      have n3_ := Aside0.mk (Kd.R_drew Q450_1.1)
      have n4_ := Aside0.mk (Kd.R_drew Q458_0.1)
      have n5_ := Aside0.mk (Kd.R_drew Q458_1.1)
      have n6_ := Aside0.mk (blk_drew BK427.1)
      have n7_ := Aside0.mk (blk_drew BK442.1)
      have n8_ := Aside0.mk (blk_drew BK449.1)
      have n9_ := Aside0.mk (blk_drew BK457.1)
      have n10_ := Aside0.mk (below_drew1 HB.1)
      clear Q443_0
      clear Q443_1
      clear Q450_0
      clear Q450_1
      clear Q458_0
      clear Q458_1
      clear BK427
      clear BK442
      clear BK449
      clear BK457
      clear HB
      have Q443_0 := n0_
      have Q443_1 := n1_
      have Q450_0 := n2_
      have Q450_1 := n3_
      have Q458_0 := n4_
      have Q458_1 := n5_
      have BK427 := n6_
      have BK442 := n7_
      have BK449 := n8_
      have BK457 := n9_
      have HB := n10_
      clear n0_ n1_ n2_ n3_ n4_ n5_ n6_ n7_ n8_ n9_ n10_
      refine start_ (n := 5) (S := fun w' => w'.cell? ⟨gb449, 0, none⟩ = some (.slice Ao28 t443.length co28) ∧ w'.cell? ⟨gb449, 1, none⟩ = some (.slice Ao32 t446.length co32) ∧ w'.cell? ⟨gb427, 0, none⟩ = some (.slice A0_0 l0_0.length c0_0) ∧ w'.cell? ⟨gb427, 1, none⟩ = some (.slice A0_1 l0_1.length c0_1)) (ds := []) #[false, false, false, false, false] (by kernel_rfl) rfl rfl ⟨(blk_cell BK449.1 0).trans rfl, (blk_cell BK449.1 1).trans rfl, (blk_cell BK427.1 0).trans rfl, (blk_cell BK427.1 1).trans rfl⟩ (fun hHeld => ?_)
      generalize wc.drew = w182 at Q443_0 Q443_1 Q450_0 Q450_1 Q458_0 Q458_1 BK427 BK442 BK449 BK457 HB hHeld ⊢
      refine take_ (i := 0) (N := some 41) (v := ?_) (a' := ?_) #[true, false, false, false, false] rfl rfl (by kernel_rfl) (fun _ _ _ h => h) (Or.inl ⟨by rfl, ?_⟩) hHeld ?_ ?_
      rotate_left
      ·rintro w' ⟨s0, s1, s2, s3⟩
       go_simp
       with_reducible rfl
      rotate_left
      ·simp only [Act.put, List.setIfInBounds_toArray, List.set_cons_zero, List.set_cons_succ, i64_w, i32_w]
       rfl
      refine take_ (i := 1) (N := some 42) (v := ?_) (a' := ?_) #[true, true, false, false, false] rfl rfl (by kernel_rfl) (fun _ _ _ h => h) (Or.inl ⟨by rfl, ?_⟩) hHeld ?_ ?_
      rotate_left
      ·rintro w' ⟨s0, s1, s2, s3⟩
       go_simp
       with_reducible rfl
      rotate_left
      ·simp only [Act.put, List.setIfInBounds_toArray, List.set_cons_zero, List.set_cons_succ, i64_w, i32_w]
       rfl
      refine one_ (i := 2) (N := some 43) #[true, true, true, false, false] rfl rfl (by kernel_rfl) (by decide) (fun K hK => ?_)
      refine goes_ Try.func17 (by kernel_rfl) rfl #[.agg #[.slice A0_0 l0_0.length c0_0, .slice A0_1 l0_1.length c0_1]] (by rfl) rfl rfl (by (try simp only [List.map_toArray, List.map_cons, List.map_nil]); first | done | rfl | (simp only [List.length_drop, List.length_take]; rfl)) ?_
      with_reducible refine (laws_toGloves.calls kj10 _ _ l0_0 _ _ l0_1 t459 t462 _ ?side1 ?side2 ?side3 ?side4 A60.1).mono ?_
      (case side1 => repeat (first | exact (Kd.C_below HR0_0.1 HB.1) | (with_reducible refine Kd.C_alloc ?_ _) | (with_reducible refine Kd.C_drewN ?_ _) | (with_reducible refine Kd.C_drew ?_)))
      (case side2 => exact HC0_0.1)
      (case side3 => repeat (first | exact (Kd.C_below HR0_1.1 HB.1) | (with_reducible refine Kd.C_alloc ?_ _) | (with_reducible refine Kd.C_drewN ?_ _) | (with_reducible refine Kd.C_drew ?_)))
      (case side4 => exact HC0_1.1)
      rintro e w183 ⟨v460, v463, rfl, ho0, ho1, hb⟩
      refine ⟨_, rfl, ?_⟩
      have n0_ := Aside0.mk (Kd.R_mono (Kd.R_told (Kd.R_told (Kd.R_old (by (with_reducible repeat (first | apply Kd.R_alloc | apply Kd.R_drewN | apply Kd.R_drew)); exact Q443_0.1) hb) (Kd.R_base ho0)) (Kd.R_base ho1)) (fun _ h_ => h_.1))
      have n1_ := Aside0.mk (Kd.R_mono (Kd.R_told (Kd.R_told (Kd.R_old (by (with_reducible repeat (first | apply Kd.R_alloc | apply Kd.R_drewN | apply Kd.R_drew)); exact Q443_1.1) hb) (Kd.R_base ho0)) (Kd.R_base ho1)) (fun _ h_ => h_.1))
      have n2_ := Aside0.mk (Kd.R_mono (Kd.R_told (Kd.R_told (Kd.R_old (by (with_reducible repeat (first | apply Kd.R_alloc | apply Kd.R_drewN | apply Kd.R_drew)); exact Q450_0.1) hb) (Kd.R_base ho0)) (Kd.R_base ho1)) (fun _ h_ => h_.1))
      have n3_ := Aside0.mk (Kd.R_mono (Kd.R_told (Kd.R_told (Kd.R_old (by (with_reducible repeat (first | apply Kd.R_alloc | apply Kd.R_drewN | apply Kd.R_drew)); exact Q450_1.1) hb) (Kd.R_base ho0)) (Kd.R_base ho1)) (fun _ h_ => h_.1))
      have n4_ := Aside0.mk (Kd.R_mono (Kd.R_told (Kd.R_told (Kd.R_old (by (with_reducible repeat (first | apply Kd.R_alloc | apply Kd.R_drewN | apply Kd.R_drew)); exact Q458_0.1) hb) (Kd.R_base ho0)) (Kd.R_base ho1)) (fun _ h_ => h_.1))
      have n5_ := Aside0.mk (Kd.R_mono (Kd.R_told (Kd.R_told (Kd.R_old (by (with_reducible repeat (first | apply Kd.R_alloc | apply Kd.R_drewN | apply Kd.R_drew)); exact Q458_1.1) hb) (Kd.R_base ho0)) (Kd.R_base ho1)) (fun _ h_ => h_.1))
      have n6_ := Aside0.mk (Kd.R_lower (Kd.R_new' (Kd.R_new' (Kd.R_new' (Kd.R_new' (Kd.R_new' (Kd.R_new' ho0 (Kd.R_lt (by (with_reducible repeat (first | apply Kd.R_alloc | apply Kd.R_drewN | apply Kd.R_drew)); exact Q443_0.1))) (Kd.R_lt (by (with_reducible repeat (first | apply Kd.R_alloc | apply Kd.R_drewN | apply Kd.R_drew)); exact Q443_1.1))) (Kd.R_lt (by (with_reducible repeat (first | apply Kd.R_alloc | apply Kd.R_drewN | apply Kd.R_drew)); exact Q450_0.1))) (Kd.R_lt (by (with_reducible repeat (first | apply Kd.R_alloc | apply Kd.R_drewN | apply Kd.R_drew)); exact Q450_1.1))) (Kd.R_lt (by (with_reducible repeat (first | apply Kd.R_alloc | apply Kd.R_drewN | apply Kd.R_drew)); exact Q458_0.1))) (Kd.R_lt (by (with_reducible repeat (first | apply Kd.R_alloc | apply Kd.R_drewN | apply Kd.R_drew)); exact Q458_1.1))) (below_size (by repeat (first | (with_reducible first | exact HB.1 | apply below_alloc | apply pw_below_drewN | apply below_drew1 | refine below_set ?_ GE427.1 | refine below_set ?_ GE442.1 | refine below_set ?_ GE449.1 | refine below_set ?_ GE457.1) | exact HB.1))))
      have n7_ := Aside0.mk (Kd.R_lower (Kd.R_new' (Kd.R_new' (Kd.R_new' (Kd.R_new' (Kd.R_new' (Kd.R_new' ho1 (Kd.R_lt (by (with_reducible repeat (first | apply Kd.R_alloc | apply Kd.R_drewN | apply Kd.R_drew)); exact Q443_0.1))) (Kd.R_lt (by (with_reducible repeat (first | apply Kd.R_alloc | apply Kd.R_drewN | apply Kd.R_drew)); exact Q443_1.1))) (Kd.R_lt (by (with_reducible repeat (first | apply Kd.R_alloc | apply Kd.R_drewN | apply Kd.R_drew)); exact Q450_0.1))) (Kd.R_lt (by (with_reducible repeat (first | apply Kd.R_alloc | apply Kd.R_drewN | apply Kd.R_drew)); exact Q450_1.1))) (Kd.R_lt (by (with_reducible repeat (first | apply Kd.R_alloc | apply Kd.R_drewN | apply Kd.R_drew)); exact Q458_0.1))) (Kd.R_lt (by (with_reducible repeat (first | apply Kd.R_alloc | apply Kd.R_drewN | apply Kd.R_drew)); exact Q458_1.1))) (below_size (by repeat (first | (with_reducible first | exact HB.1 | apply below_alloc | apply pw_below_drewN | apply below_drew1 | refine below_set ?_ GE427.1 | refine below_set ?_ GE442.1 | refine below_set ?_ GE449.1 | refine below_set ?_ GE457.1) | exact HB.1))))
      have n8_ := Aside0.mk (blk_below (g := gb427) (o := .cells #[.slice A0_0 l0_0.length c0_0, .slice A0_1 l0_1.length c0_1] 24 (0, 0)) (by (with_reducible repeat (first | refine blk_drewN ?_ _ | refine blk_drew ?_ | refine blk_alloc ?_ _)); exact BK427.1) hb)
      have n9_ := Aside0.mk (blk_below (g := gb442) (o := .cells #[.slice Ao21 t435.length co21, .slice Ao24 t438.length co24] 28 (0, 0)) (by (with_reducible repeat (first | refine blk_drewN ?_ _ | refine blk_drew ?_ | refine blk_alloc ?_ _)); exact BK442.1) hb)
      have n10_ := Aside0.mk (blk_below (g := gb449) (o := .cells #[.slice Ao28 t443.length co28, .slice Ao32 t446.length co32] 28 (0, 0)) (by (with_reducible repeat (first | refine blk_drewN ?_ _ | refine blk_drew ?_ | refine blk_alloc ?_ _)); exact BK449.1) hb)
      have n11_ := Aside0.mk (blk_below (g := gb457) (o := .cells #[.slice Ao35 t450.length co35, .slice Ao40 t453.length co40] 28 (0, 0)) (by (with_reducible repeat (first | refine blk_drewN ?_ _ | refine blk_drew ?_ | refine blk_alloc ?_ _)); exact BK457.1) hb)
      have n12_ := Aside0.mk (below_step (by repeat (first | (with_reducible first | exact HB.1 | apply below_alloc | apply pw_below_drewN | apply below_drew1 | refine below_set ?_ GE427.1 | refine below_set ?_ GE442.1 | refine below_set ?_ GE449.1 | refine below_set ?_ GE457.1) | exact HB.1)) hb)
      clear Q443_0
      clear Q443_1
      clear Q450_0
      clear Q450_1
      clear Q458_0
      clear Q458_1
      clear BK427
      clear BK442
      clear BK449
      clear BK457
      clear HB
      have Q443_0 := n0_
      have Q443_1 := n1_
      have Q450_0 := n2_
      have Q450_1 := n3_
      have Q458_0 := n4_
      have Q458_1 := n5_
      have HO461 := n6_
      have HO464 := n7_
      have BK427 := n8_
      have BK442 := n9_
      have BK449 := n10_
      have BK457 := n11_
      have HB := n12_
      clear n0_ n1_ n2_ n3_ n4_ n5_ n6_ n7_ n8_ n9_ n10_ n11_ n12_
      (try clear hb)
      (try clear hb2)
      (try clear hk)
      (try clear hi)
      (try clear ho0)
      (try clear ho1)
      obtain ⟨Ao184, co184, eo184⟩ := Kd.R_slice HO461.1
      (first | subst eo184 | (injection eo184 with f1_ f2_ f3_; have f4_ := f1_.symm; have f5_ := f3_.symm; clear f1_ f2_ f3_; subst f4_; subst f5_))
      obtain ⟨Ao185, co185, eo185⟩ := Kd.R_slice HO464.1
      (first | subst eo185 | (injection eo185 with f1_ f2_ f3_; have f4_ := f1_.symm; have f5_ := f3_.symm; clear f1_ f2_ f3_; subst f4_; subst f5_))
      refine hK.out _ _ ⟨(blk_cell BK449.1 0).trans rfl, (blk_cell BK449.1 1).trans rfl, (blk_cell BK427.1 0).trans rfl, (blk_cell BK427.1 1).trans rfl⟩ (fun hHeld => ?_)
      clear hK K
      refine norm_ (a' := ?_) ?_ ?_
      rotate_left
      ·show Act.put _ (some 43) _ = _
       simp only [Act.put, List.setIfInBounds_toArray, List.set_cons_zero, List.set_cons_succ, i64_w, i32_w]
       rfl
      refine one_ (i := 3) (N := some 44) #[true, true, true, true, false] rfl rfl (by kernel_rfl) (by decide) (fun K hK => ?_)
      refine goes_ Try.func19 (by kernel_rfl) rfl #[.agg #[.slice Ao28 t443.length co28, .slice Ao32 t446.length co32], .agg #[.slice Ao184 t459.length co184, .slice Ao185 t462.length co185]] (by rfl) rfl rfl (by (try simp only [List.map_toArray, List.map_cons, List.map_nil]); first | done | rfl | (simp only [List.length_drop, List.length_take]; rfl)) ?_
      with_reducible refine (laws_eqGloves.calls kj10 _ _ t443 _ _ t446 _ _ t459 _ _ t462 false _ ?side1 ?side2 ?side3 ?side4 ?side5 ?side6 ?side7 ?side8 A61.1).mono ?_
      (case side1 => repeat (first | exact (Kd.R_reads' Q450_0.1).2.2 | (with_reducible refine Kd.C_alloc ?_ _) | (with_reducible refine Kd.C_drewN ?_ _) | (with_reducible refine Kd.C_drew ?_)))
      (case side2 => exact (Kd.R_reads' Q450_0.1).2.1)
      (case side3 => repeat (first | exact (Kd.R_reads' Q450_1.1).2.2 | (with_reducible refine Kd.C_alloc ?_ _) | (with_reducible refine Kd.C_drewN ?_ _) | (with_reducible refine Kd.C_drew ?_)))
      (case side4 => exact (Kd.R_reads' Q450_1.1).2.1)
      (case side5 => repeat (first | exact (Kd.R_reads' HO461.1).2.2 | (with_reducible refine Kd.C_alloc ?_ _) | (with_reducible refine Kd.C_drewN ?_ _) | (with_reducible refine Kd.C_drew ?_)))
      (case side6 => exact (Kd.R_reads' HO461.1).2.1)
      (case side7 => repeat (first | exact (Kd.R_reads' HO464.1).2.2 | (with_reducible refine Kd.C_alloc ?_ _) | (with_reducible refine Kd.C_drewN ?_ _) | (with_reducible refine Kd.C_drew ?_)))
      (case side8 => exact (Kd.R_reads' HO464.1).2.1)
      rintro e w186 ⟨rfl, hb⟩
      refine ⟨_, rfl, ?_⟩
      have n0_ := Aside0.mk (Kd.R_below (by (with_reducible repeat (first | apply Kd.R_alloc | apply Kd.R_drewN | apply Kd.R_drew)); exact Q443_0.1) hb)
      have n1_ := Aside0.mk (Kd.R_below (by (with_reducible repeat (first | apply Kd.R_alloc | apply Kd.R_drewN | apply Kd.R_drew)); exact Q443_1.1) hb)
      have n2_ := Aside0.mk (Kd.R_below (by (with_reducible repeat (first | apply Kd.R_alloc | apply Kd.R_drewN | apply Kd.R_drew)); exact Q450_0.1) hb)
      have n3_ := Aside0.mk (Kd.R_below (by (with_reducible repeat (first | apply Kd.R_alloc | apply Kd.R_drewN | apply Kd.R_drew)); exact Q450_1.1) hb)
      have n4_ := Aside0.mk (Kd.R_below (by (with_reducible repeat (first | apply Kd.R_alloc | apply Kd.R_drewN | apply Kd.R_drew)); exact Q458_0.1) hb)
      have n5_ := Aside0.mk (Kd.R_below (by (with_reducible repeat (first | apply Kd.R_alloc | apply Kd.R_drewN | apply Kd.R_drew)); exact Q458_1.1) hb)
      have n6_ := Aside0.mk (Kd.R_below (by (with_reducible repeat (first | apply Kd.R_alloc | apply Kd.R_drewN | apply Kd.R_drew)); exact HO461.1) hb)
      have n7_ := Aside0.mk (Kd.R_below (by (with_reducible repeat (first | apply Kd.R_alloc | apply Kd.R_drewN | apply Kd.R_drew)); exact HO464.1) hb)
      have n8_ := Aside0.mk (blk_below (g := gb427) (o := .cells #[.slice A0_0 l0_0.length c0_0, .slice A0_1 l0_1.length c0_1] 24 (0, 0)) (by (with_reducible repeat (first | refine blk_drewN ?_ _ | refine blk_drew ?_ | refine blk_alloc ?_ _)); exact BK427.1) hb)
      have n9_ := Aside0.mk (blk_below (g := gb442) (o := .cells #[.slice Ao21 t435.length co21, .slice Ao24 t438.length co24] 28 (0, 0)) (by (with_reducible repeat (first | refine blk_drewN ?_ _ | refine blk_drew ?_ | refine blk_alloc ?_ _)); exact BK442.1) hb)
      have n10_ := Aside0.mk (blk_below (g := gb449) (o := .cells #[.slice Ao28 t443.length co28, .slice Ao32 t446.length co32] 28 (0, 0)) (by (with_reducible repeat (first | refine blk_drewN ?_ _ | refine blk_drew ?_ | refine blk_alloc ?_ _)); exact BK449.1) hb)
      have n11_ := Aside0.mk (blk_below (g := gb457) (o := .cells #[.slice Ao35 t450.length co35, .slice Ao40 t453.length co40] 28 (0, 0)) (by (with_reducible repeat (first | refine blk_drewN ?_ _ | refine blk_drew ?_ | refine blk_alloc ?_ _)); exact BK457.1) hb)
      have n12_ := Aside0.mk (below_step (by repeat (first | (with_reducible first | exact HB.1 | apply below_alloc | apply pw_below_drewN | apply below_drew1 | refine below_set ?_ GE427.1 | refine below_set ?_ GE442.1 | refine below_set ?_ GE449.1 | refine below_set ?_ GE457.1) | exact HB.1)) hb)
      clear Q443_0
      clear Q443_1
      clear Q450_0
      clear Q450_1
      clear Q458_0
      clear Q458_1
      clear HO461
      clear HO464
      clear BK427
      clear BK442
      clear BK449
      clear BK457
      clear HB
      have Q443_0 := n0_
      have Q443_1 := n1_
      have Q450_0 := n2_
      have Q450_1 := n3_
      have Q458_0 := n4_
      have Q458_1 := n5_
      have HO461 := n6_
      have HO464 := n7_
      have BK427 := n8_
      have BK442 := n9_
      have BK449 := n10_
      have BK457 := n11_
      have HB := n12_
      clear n0_ n1_ n2_ n3_ n4_ n5_ n6_ n7_ n8_ n9_ n10_ n11_ n12_
      (try clear hb)
      (try clear hb2)
      (try clear hk)
      (try clear hi)
      refine hK.out _ _ ⟨(blk_cell BK449.1 0).trans rfl, (blk_cell BK449.1 1).trans rfl, (blk_cell BK427.1 0).trans rfl, (blk_cell BK427.1 1).trans rfl⟩ (fun hHeld => ?_)
      clear hK K
      refine norm_ (a' := ?_) ?_ ?_
      rotate_left
      ·show Act.put _ (some 44) _ = _
       simp only [Act.put, List.setIfInBounds_toArray, List.set_cons_zero, List.set_cons_succ, i64_w, i32_w]
       rfl
      refine pure_ (i := 4) (N := some 45) (v := ?_) (a' := ?_) #[true, true, true, true, true] rfl rfl (by kernel_rfl) (fun _ _ _ h => h) (Or.inl ⟨by rfl, ?_⟩) ?_ ?_
      rotate_left
      ·intro w'
       go_simp
       with_reducible rfl
      rotate_left
      ·simp only [Act.put, List.setIfInBounds_toArray, List.set_cons_zero, List.set_cons_succ, i64_w, i32_w]
       rfl
      refine done_ (by kernel_rfl) ?_
      try go_wp2
      go_ret
      exact ⟨by first | rfl | (simp [errW_none, errW_some] <;> rfl) | (simp [Go.IntWalk.i64_left]; done) | (simp [*, errW_none, errW_some] <;> rfl), by repeat (first | (with_reducible first | exact HB.1 | apply below_alloc | apply pw_below_drewN | apply below_drew1 | refine below_set ?_ GE427.1 | refine below_set ?_ GE442.1 | refine below_set ?_ GE449.1 | refine below_set ?_ GE457.1) | exact HB.1)⟩

/-- THE ONE PURE STATEMENT of laws_FnExactLooseGloves. -/
def laws_FnExactLooseGloves.Pure : Prop := ∀ (l0_0 : List Int) (l0_1 : List Int), l0_0.length ≤ maxLen → l0_0.length * 8 ≤ 140737488351232 → (∀ x ∈ l0_0, (Lit.int .i64 x).wf = true) → l0_1.length ≤ maxLen → l0_1.length * 8 ≤ 140737488351232 → (∀ x ∈ l0_1, (Lit.int .i64 x).wf = true) → ∃ k, laws_FnExactLooseGloves.f k l0_0 l0_1 = some true
theorem laws_FnExactLooseGloves.walk (P : laws_FnExactLooseGloves.Pure) (a0_0 : Option Addr) (len0_0 cap0_0 : Nat) (z0_0 : List Int) (a0_1 : Option Addr) (len0_1 cap0_1 : Nat) (z0_1 : List Int) (w : World) (w0_0 : (a0_0 = none ∧ len0_0 = 0 ∧ cap0_0 = 0 ∧ z0_0 = []) ∨ ∃ x, a0_0 = some x ∧ len0_0 ≤ cap0_0 ∧ cap0_0 ≤ maxLen ∧ z0_0.length = cap0_0 ∧ (∀ i, i < z0_0.length → w.cell? (x.add i) = some (.int .i64 (z0_0.getD i 0))) ∧ ∀ n ∈ z0_0, (Lit.int .i64 n).wf = true) (y0_0 : len0_0 * 8 ≤ 140737488351232) (w0_1 : (a0_1 = none ∧ len0_1 = 0 ∧ cap0_1 = 0 ∧ z0_1 = []) ∨ ∃ x, a0_1 = some x ∧ len0_1 ≤ cap0_1 ∧ cap0_1 ≤ maxLen ∧ z0_1.length = cap0_1 ∧ (∀ i, i < z0_1.length → w.cell? (x.add i) = some (.int .i64 (z0_1.getD i 0))) ∧ ∀ n ∈ z0_1, (Lit.int .i64 n).wf = true) (y0_1 : len0_1 * 8 ≤ 140737488351232) :
  Calls Try.prog 12 #[.agg #[.slice a0_0 len0_0 cap0_0, .slice a0_1 len0_1 cap0_1]] w fun e w' => e = .returned (.bool true) ∧ Below w.heap.size w w' := by
 obtain ⟨l0_0, rfl, hr0_0, hm0_0, hw0_0, hc0_0⟩ := ReadsInt.ofRowC w0_0
 obtain ⟨l0_1, rfl, hr0_1, hm0_1, hw0_1, hc0_1⟩ := ReadsInt.ofRowC w0_1
 obtain ⟨k, h⟩ := P l0_0 l0_1 hm0_0 y0_0 hw0_0 hm0_1 y0_1 hw0_1
 refine (laws_FnExactLooseGloves.calls k _ _ l0_0 _ _ l0_1 true w (Kd.C_of_reads (d := (0 : Int)) (h1 := fun _ => rfl) hr0_0) hc0_0 (Kd.C_of_reads (d := (0 : Int)) (h1 := fun _ => rfl) hr0_1) hc0_1 h).mono ?_
 rintro e w' ⟨rfl, hd⟩
 exact ⟨rfl, hd⟩

end Go.Proofs.Ytcnfhfjhpicpkaa.P
