/- FnExactJoinGloves' law, walked along the paths that answer true. -/
import Derived.Test.YtcnfhfjhpicpkaaQ3
import Derived.Test.YtcnfhfjhpicpkaaQ4
import Derived.BigRegion
namespace Go.Proofs.Ytcnfhfjhpicpkaa.P
open Go.RowKit Go.Proofs.YtcnfhfjhpicpkaaW.PrintWords Go.Proofs.YtcnfhfjhpicpkaaW.PrintLast Go.Proofs.YtcnfhfjhpicpkaaW.PrintMore
attribute [local go_sem] max2_int min2_int max_two min_two max_three min_three max_four min_four   -- for this text's walks alone
set_option linter.unusedVariables false
set_option linter.unusedSimpArgs false
def laws_FnExactJoinGloves.T8 : Bool × List (List Nat × List Nat) := (true, [([], []), ([0], [0]), ([], []), ([2, 1], [2]), ([1, 3, 3], [1, 3]), ([4], [4]), ([5], [5]), ([5], [5]), ([], []), ([8, 6, 4, 0, 1, 2, 3, 4, 5, 6, 8], [6, 8]), ([7, 9, 0, 1, 2, 3, 4, 5, 6, 7, 8, 9], [7])])
def laws_FnExactJoinGloves.B8 : List Nat := [0, 1, 0, 7, 15, 31, 63, 63, 0, 383, 1023]
theorem laws_FnExactJoinGloves.tab8 : rtab .any (opsOf Try.f11 8) = laws_FnExactJoinGloves.T8 := by kernel_rfl
theorem laws_FnExactJoinGloves.bits8 : waitsOk laws_FnExactJoinGloves.T8.2 laws_FnExactJoinGloves.B8 = true := by kernel_rfl
def laws_FnExactJoinGloves.T31 : Bool × List (List Nat × List Nat) := (true, [([], []), ([0], [0]), ([], []), ([2, 1], [2]), ([1, 3, 3], [1, 3]), ([4], [4]), ([5], [5]), ([5], [5]), ([], []), ([8, 6, 4, 0, 1, 2, 3, 4, 5, 6, 8], [6, 8]), ([7, 9, 0, 1, 2, 3, 4, 5, 6, 7, 8, 9], [7])])
def laws_FnExactJoinGloves.B31 : List Nat := [0, 1, 0, 7, 15, 31, 63, 63, 0, 383, 1023]
theorem laws_FnExactJoinGloves.tab31 : rtab .any (opsOf Try.f11 31) = laws_FnExactJoinGloves.T31 := by kernel_rfl
theorem laws_FnExactJoinGloves.bits31 : waitsOk laws_FnExactJoinGloves.T31.2 laws_FnExactJoinGloves.B31 = true := by kernel_rfl
set_option maxHeartbeats 8000000 in
set_option maxRecDepth 100000 in
theorem jg_big0 (A0 : Option Addr) (c0 : Nat) (a0 : List Int) (A1 : Option Addr) (c1 : Nat) (a1 : List Int) (B0 : Option Addr) (d0 : Nat) (b0 : List Int) (B1 : Option Addr) (d1 : Nat) (b1 : List Int) (w : World)
    (ra0 : Kd.C (Kd.int .i64) w A0 a0.length a0) (ca0 : a0.length ≤ c0) (ra1 : Kd.C (Kd.int .i64) w A1 a1.length a1) (ca1 : a1.length ≤ c1) (rb0 : Kd.C (Kd.int .i64) w B0 b0.length b0) (cb0 : b0.length ≤ d0) (rb1 : Kd.C (Kd.int .i64) w B1 b1.length b1) (cb1 : b1.length ≤ d1)
    (s1 : Int) (z1 : laws_szGloves.f a0 a1 1048576 = some s1) (h1 : s1 < 0) :
    Calls Try.prog 11 #[.agg #[.slice A0 a0.length c0, .slice A1 a1.length c1], .agg #[.slice B0 b0.length d0, .slice B1 b1.length d1]] w fun e w' => e = .returned (.bool true) ∧ Below w.heap.size w w' := by
 have hu24 := Try.underlying24
 have hu28 := Try.underlying28
 have RA0 := Aside0.mk ra0
 have CA0 := Aside0.mk ca0
 clear ra0 ca0
 have RA1 := Aside0.mk ra1
 have CA1 := Aside0.mk ca1
 clear ra1 ca1
 have RB0 := Aside0.mk rb0
 have CB0 := Aside0.mk cb0
 clear rb0 cb0
 have RB1 := Aside0.mk rb1
 have CB1 := Aside0.mk cb1
 clear rb1 cb1
 have Z1 := Aside0.mk z1
 clear z1
 have HS := Aside0.mk (St.nil w)
 go_enter Try.func11, Try.ntmps11
 have q1 : decide (s1 < 0) = true := decide_eq_true h1
 clear h1
 go_wp2_with (first | ((with_reducible refine gate_dst (N := 2) rfl ?_); refine box_event ?hg (N := 2) ?hd (cs := #[.slice A0 a0.length c0, .slice A1 a1.length c1]) (t := 24) ?hr ?_; (case hd => rfl); (case hg => rfl); (case hr => first | (go_simp; done) | (go_simp; rfl)); intro gA hg w1 hbox hb; have n_ := Aside0.mk (St.box (by repeat (first | (with_reducible exact HS.1) | apply St.drew | apply St.drewN)) hg hbox hb); clear HS hb hbox hg; have HS := n_; clear n_) | ((with_reducible refine gate_dst (N := 3) rfl ?_); refine box_event ?hg (N := 3) ?hd (cs := #[.slice B0 b0.length d0, .slice B1 b1.length d1]) (t := 24) ?hr ?_; (case hd => rfl); (case hg => rfl); (case hr => first | (go_simp; done) | (go_simp; rfl)); intro gB hg w2 hbox hb; have n_ := Aside0.mk (St.box (by repeat (first | (with_reducible exact HS.1) | apply St.drew | apply St.drewN)) hg hbox hb); clear HS hb hbox hg; have HS := n_; clear n_; have egA0 : w2.cell? ⟨gA, 0, none⟩ = some (.slice A0 a0.length c0) := HS.1.cell 1 rfl 0 rfl; have egA1 : w2.cell? ⟨gA, 1, none⟩ = some (.slice A1 a1.length c1) := HS.1.cell 1 rfl 1 rfl; have fgA0 := HS.1.open_ 1 rfl 0; have fgA1 := HS.1.open_ 1 rfl 1) | ((with_reducible refine gate_callee (f := 15) rfl ?_); refine goesL_ (some 19) rfl rfl Try.func15 (by kernel_rfl) rfl #[.agg #[.slice A0 a0.length c0, .slice A1 a1.length c1], .int .i64 (1048576)] rfl (by (try simp only [List.map_toArray, List.map_cons, List.map_nil]); first | done | rfl | (simp only [List.length_drop, List.length_take]; rfl)) ?_; (with_reducible refine (laws_szGloves.calls _ _ a0 _ _ a1 (1048576) s1 _ ?side1 ?side2 ?side3 ?side4 Z1.1).mono ?_); (case side1 => exact St.came (by repeat (first | (with_reducible exact HS.1) | apply St.drew | apply St.drewN)) RA0.1); (case side2 => exact CA0.1); (case side3 => exact St.came (by repeat (first | (with_reducible exact HS.1) | apply St.drew | apply St.drewN)) RA1.1); (case side4 => exact CA1.1); rintro e w3 ⟨rfl, hb⟩; refine ⟨_, rfl, ?_⟩; have n_ := Aside0.mk (St.go (by repeat (first | (with_reducible exact HS.1) | apply St.drew | apply St.drewN)) hb); clear HS hb; have HS := n_; clear n_; have egB0 : w3.cell? ⟨gB, 0, none⟩ = some (.slice B0 b0.length d0) := HS.1.cell 0 rfl 0 rfl; have egB1 : w3.cell? ⟨gB, 1, none⟩ = some (.slice B1 b1.length d1) := HS.1.cell 0 rfl 1 rfl; have fgB0 := HS.1.open_ 0 rfl 0; have fgB1 := HS.1.open_ 0 rfl 1))
 go_ret
 exact ⟨rfl, St.below (by repeat (first | (with_reducible exact HS.1) | apply St.drew | apply St.drewN))⟩
set_option maxHeartbeats 8000000 in
set_option maxRecDepth 100000 in
theorem jg_big1 (A0 : Option Addr) (c0 : Nat) (a0 : List Int) (A1 : Option Addr) (c1 : Nat) (a1 : List Int) (B0 : Option Addr) (d0 : Nat) (b0 : List Int) (B1 : Option Addr) (d1 : Nat) (b1 : List Int) (w : World)
    (ra0 : Kd.C (Kd.int .i64) w A0 a0.length a0) (ca0 : a0.length ≤ c0) (ra1 : Kd.C (Kd.int .i64) w A1 a1.length a1) (ca1 : a1.length ≤ c1) (rb0 : Kd.C (Kd.int .i64) w B0 b0.length b0) (cb0 : b0.length ≤ d0) (rb1 : Kd.C (Kd.int .i64) w B1 b1.length b1) (cb1 : b1.length ≤ d1)
    (s1 s2 : Int) (z1 : laws_szGloves.f a0 a1 1048576 = some s1) (h1 : ¬ s1 < 0) (z2 : laws_szGloves.f b0 b1 s1 = some s2) (h2 : s2 < 0) :
    Calls Try.prog 11 #[.agg #[.slice A0 a0.length c0, .slice A1 a1.length c1], .agg #[.slice B0 b0.length d0, .slice B1 b1.length d1]] w fun e w' => e = .returned (.bool true) ∧ Below w.heap.size w w' := by
 have hu24 := Try.underlying24
 have hu28 := Try.underlying28
 have RA0 := Aside0.mk ra0
 have CA0 := Aside0.mk ca0
 clear ra0 ca0
 have RA1 := Aside0.mk ra1
 have CA1 := Aside0.mk ca1
 clear ra1 ca1
 have RB0 := Aside0.mk rb0
 have CB0 := Aside0.mk cb0
 clear rb0 cb0
 have RB1 := Aside0.mk rb1
 have CB1 := Aside0.mk cb1
 clear rb1 cb1
 have Z1 := Aside0.mk z1
 clear z1
 have Z2 := Aside0.mk z2
 clear z2
 have HS := Aside0.mk (St.nil w)
 go_enter Try.func11, Try.ntmps11
 have q1 : decide (s1 < 0) = false := decide_eq_false h1
 have q2 : decide (s2 < 0) = true := decide_eq_true h2
 clear h1 h2
 go_wp2_with (first | ((with_reducible refine gate_dst (N := 2) rfl ?_); refine box_event ?hg (N := 2) ?hd (cs := #[.slice A0 a0.length c0, .slice A1 a1.length c1]) (t := 24) ?hr ?_; (case hd => rfl); (case hg => rfl); (case hr => first | (go_simp; done) | (go_simp; rfl)); intro gA hg w1 hbox hb; have n_ := Aside0.mk (St.box (by repeat (first | (with_reducible exact HS.1) | apply St.drew | apply St.drewN)) hg hbox hb); clear HS hb hbox hg; have HS := n_; clear n_) | ((with_reducible refine gate_dst (N := 3) rfl ?_); refine box_event ?hg (N := 3) ?hd (cs := #[.slice B0 b0.length d0, .slice B1 b1.length d1]) (t := 24) ?hr ?_; (case hd => rfl); (case hg => rfl); (case hr => first | (go_simp; done) | (go_simp; rfl)); intro gB hg w2 hbox hb; have n_ := Aside0.mk (St.box (by repeat (first | (with_reducible exact HS.1) | apply St.drew | apply St.drewN)) hg hbox hb); clear HS hb hbox hg; have HS := n_; clear n_; have egA0 : w2.cell? ⟨gA, 0, none⟩ = some (.slice A0 a0.length c0) := HS.1.cell 1 rfl 0 rfl; have egA1 : w2.cell? ⟨gA, 1, none⟩ = some (.slice A1 a1.length c1) := HS.1.cell 1 rfl 1 rfl; have fgA0 := HS.1.open_ 1 rfl 0; have fgA1 := HS.1.open_ 1 rfl 1) | ((with_reducible refine gate_callee (f := 15) rfl ?_); refine goesL_ (some 19) rfl rfl Try.func15 (by kernel_rfl) rfl #[.agg #[.slice A0 a0.length c0, .slice A1 a1.length c1], .int .i64 (1048576)] rfl (by (try simp only [List.map_toArray, List.map_cons, List.map_nil]); first | done | rfl | (simp only [List.length_drop, List.length_take]; rfl)) ?_; (with_reducible refine (laws_szGloves.calls _ _ a0 _ _ a1 (1048576) s1 _ ?side1 ?side2 ?side3 ?side4 Z1.1).mono ?_); (case side1 => exact St.came (by repeat (first | (with_reducible exact HS.1) | apply St.drew | apply St.drewN)) RA0.1); (case side2 => exact CA0.1); (case side3 => exact St.came (by repeat (first | (with_reducible exact HS.1) | apply St.drew | apply St.drewN)) RA1.1); (case side4 => exact CA1.1); rintro e w3 ⟨rfl, hb⟩; refine ⟨_, rfl, ?_⟩; have n_ := Aside0.mk (St.go (by repeat (first | (with_reducible exact HS.1) | apply St.drew | apply St.drewN)) hb); clear HS hb; have HS := n_; clear n_; have egB0 : w3.cell? ⟨gB, 0, none⟩ = some (.slice B0 b0.length d0) := HS.1.cell 0 rfl 0 rfl; have egB1 : w3.cell? ⟨gB, 1, none⟩ = some (.slice B1 b1.length d1) := HS.1.cell 0 rfl 1 rfl; have fgB0 := HS.1.open_ 0 rfl 0; have fgB1 := HS.1.open_ 0 rfl 1) | ((with_reducible refine gate_callee (f := 15) rfl ?_); refine goesL_ (some 24) rfl rfl Try.func15 (by kernel_rfl) rfl #[.agg #[.slice B0 b0.length d0, .slice B1 b1.length d1], .int .i64 (s1)] rfl (by (try simp only [List.map_toArray, List.map_cons, List.map_nil]); first | done | rfl | (simp only [List.length_drop, List.length_take]; rfl)) ?_; (with_reducible refine (laws_szGloves.calls _ _ b0 _ _ b1 (s1) s2 _ ?side1 ?side2 ?side3 ?side4 Z2.1).mono ?_); (case side1 => exact St.came (by repeat (first | (with_reducible exact HS.1) | apply St.drew | apply St.drewN)) RB0.1); (case side2 => exact CB0.1); (case side3 => exact St.came (by repeat (first | (with_reducible exact HS.1) | apply St.drew | apply St.drewN)) RB1.1); (case side4 => exact CB1.1); rintro e w4 ⟨rfl, hb⟩; refine ⟨_, rfl, ?_⟩; have n_ := Aside0.mk (St.go (by repeat (first | (with_reducible exact HS.1) | apply St.drew | apply St.drewN)) hb); clear HS hb; have HS := n_; clear n_))
 go_ret
 exact ⟨rfl, St.below (by repeat (first | (with_reducible exact HS.1) | apply St.drew | apply St.drewN))⟩
set_option maxHeartbeats 8000000 in
set_option maxRecDepth 100000 in
theorem jg_full (A0 : Option Addr) (c0 : Nat) (a0 : List Int) (A1 : Option Addr) (c1 : Nat) (a1 : List Int) (B0 : Option Addr) (d0 : Nat) (b0 : List Int) (B1 : Option Addr) (d1 : Nat) (b1 : List Int) (w : World)
    (ra0 : Kd.C (Kd.int .i64) w A0 a0.length a0) (ca0 : a0.length ≤ c0) (ra1 : Kd.C (Kd.int .i64) w A1 a1.length a1) (ca1 : a1.length ≤ c1) (rb0 : Kd.C (Kd.int .i64) w B0 b0.length b0) (cb0 : b0.length ≤ d0) (rb1 : Kd.C (Kd.int .i64) w B1 b1.length b1) (cb1 : b1.length ≤ d1)
    (k : Nat) (s1 s2 m1 m2 m3 : Int) (W0 W1 X0 X1 Y0 Y1 V0 V1 : List Int) (b : Bool) (z1 : laws_szGloves.f a0 a1 1048576 = some s1) (h1 : ¬ s1 < 0) (z2 : laws_szGloves.f b0 b1 s1 = some s2) (h2 : ¬ s2 < 0)
    (ta : laws_toGloves.f k a0 a1 = some (a0, a1)) (tb : laws_toGloves.f k b0 b1 = some (b0, b1)) (js : spec_JoinGloves.f k a0 a1 b0 b1 = some (W0, W1, b)) (ji : impl_JoinGloves.f k a0 a1 b0 b1 = some (W0, W1, b))
    (ea : laws_eqGloves.f k a0 a1 a0 a1 = some true) (eb : laws_eqGloves.f k b0 b1 b0 b1 = some true) (ew : laws_eqGloves.f k W0 W1 W0 W1 = some true)
    (ma : laws_markGloves.f k a0 a1 1 = some (m1, X0, X1)) (mb : laws_markGloves.f k b0 b1 m1 = some (m2, Y0, Y1)) (h3 : ¬ m2 < 0) (mw : laws_markGloves.f k W0 W1 1 = some (m3, V0, V1)) (hw : laws_heldGloves.f k V0 V1 1 = some m3) (h4 : ¬ m3 < 0) :
    Calls Try.prog 11 #[.agg #[.slice A0 a0.length c0, .slice A1 a1.length c1], .agg #[.slice B0 b0.length d0, .slice B1 b1.length d1]] w fun e w' => e = .returned (.bool true) ∧ Below w.heap.size w w' := by
 have hu24 := Try.underlying24
 have hu28 := Try.underlying28
 have RA0 := Aside0.mk ra0
 have CA0 := Aside0.mk ca0
 clear ra0 ca0
 have RA1 := Aside0.mk ra1
 have CA1 := Aside0.mk ca1
 clear ra1 ca1
 have RB0 := Aside0.mk rb0
 have CB0 := Aside0.mk cb0
 clear rb0 cb0
 have RB1 := Aside0.mk rb1
 have CB1 := Aside0.mk cb1
 clear rb1 cb1
 have Z1 := Aside0.mk z1
 clear z1
 have Z2 := Aside0.mk z2
 clear z2
 have TA := Aside0.mk ta
 clear ta
 have TB := Aside0.mk tb
 clear tb
 have JS := Aside0.mk js
 clear js
 have JI := Aside0.mk ji
 clear ji
 have EA := Aside0.mk ea
 clear ea
 have EB := Aside0.mk eb
 clear eb
 have EW := Aside0.mk ew
 clear ew
 have MA := Aside0.mk ma
 clear ma
 have MB := Aside0.mk mb
 clear mb
 have MW := Aside0.mk mw
 clear mw
 have HW := Aside0.mk hw
 clear hw
 have HS := Aside0.mk (St.nil w)
 go_enter Try.func11, Try.ntmps11
 have q1 : decide (s1 < 0) = false := decide_eq_false h1
 have q2 : decide (s2 < 0) = false := decide_eq_false h2
 have q3 : decide (m2 < 0) = false := decide_eq_false h3
 have q4 : decide (m3 < 0) = false := decide_eq_false h4
 clear h1 h2 h3 h4
 try go_wp2_with (first | ((with_reducible refine gate_dst (N := 2) rfl ?_); refine box_event ?hg (N := 2) ?hd (cs := #[.slice A0 a0.length c0, .slice A1 a1.length c1]) (t := 24) ?hr ?_; (case hd => rfl); (case hg => rfl); (case hr => first | (go_simp; done) | (go_simp; rfl)); intro gA hg w1 hbox hb; have n_ := Aside0.mk (St.box (by repeat (first | (with_reducible exact HS.1) | apply St.drew | apply St.drewN)) hg hbox hb); clear HS hb hbox hg; have HS := n_; clear n_) | ((with_reducible refine gate_dst (N := 3) rfl ?_); refine box_event ?hg (N := 3) ?hd (cs := #[.slice B0 b0.length d0, .slice B1 b1.length d1]) (t := 24) ?hr ?_; (case hd => rfl); (case hg => rfl); (case hr => first | (go_simp; done) | (go_simp; rfl)); intro gB hg w2 hbox hb; have n_ := Aside0.mk (St.box (by repeat (first | (with_reducible exact HS.1) | apply St.drew | apply St.drewN)) hg hbox hb); clear HS hb hbox hg; have HS := n_; clear n_; have egA0 : w2.cell? ⟨gA, 0, none⟩ = some (.slice A0 a0.length c0) := HS.1.cell 1 rfl 0 rfl; have egA1 : w2.cell? ⟨gA, 1, none⟩ = some (.slice A1 a1.length c1) := HS.1.cell 1 rfl 1 rfl; have fgA0 := HS.1.open_ 1 rfl 0; have fgA1 := HS.1.open_ 1 rfl 1) | ((with_reducible refine gate_callee (f := 15) rfl ?_); refine goesL_ (some 19) rfl rfl Try.func15 (by kernel_rfl) rfl #[.agg #[.slice A0 a0.length c0, .slice A1 a1.length c1], .int .i64 (1048576)] rfl (by (try simp only [List.map_toArray, List.map_cons, List.map_nil]); first | done | rfl | (simp only [List.length_drop, List.length_take]; rfl)) ?_; (with_reducible refine (laws_szGloves.calls _ _ a0 _ _ a1 (1048576) s1 _ ?side1 ?side2 ?side3 ?side4 Z1.1).mono ?_); (case side1 => exact St.came (by repeat (first | (with_reducible exact HS.1) | apply St.drew | apply St.drewN)) RA0.1); (case side2 => exact CA0.1); (case side3 => exact St.came (by repeat (first | (with_reducible exact HS.1) | apply St.drew | apply St.drewN)) RA1.1); (case side4 => exact CA1.1); rintro e w3 ⟨rfl, hb⟩; refine ⟨_, rfl, ?_⟩; have n_ := Aside0.mk (St.go (by repeat (first | (with_reducible exact HS.1) | apply St.drew | apply St.drewN)) hb); clear HS hb; have HS := n_; clear n_; have egB0 : w3.cell? ⟨gB, 0, none⟩ = some (.slice B0 b0.length d0) := HS.1.cell 0 rfl 0 rfl; have egB1 : w3.cell? ⟨gB, 1, none⟩ = some (.slice B1 b1.length d1) := HS.1.cell 0 rfl 1 rfl; have fgB0 := HS.1.open_ 0 rfl 0; have fgB1 := HS.1.open_ 0 rfl 1) | ((with_reducible refine gate_callee (f := 15) rfl ?_); refine goesL_ (some 24) rfl rfl Try.func15 (by kernel_rfl) rfl #[.agg #[.slice B0 b0.length d0, .slice B1 b1.length d1], .int .i64 (s1)] rfl (by (try simp only [List.map_toArray, List.map_cons, List.map_nil]); first | done | rfl | (simp only [List.length_drop, List.length_take]; rfl)) ?_; (with_reducible refine (laws_szGloves.calls _ _ b0 _ _ b1 (s1) s2 _ ?side1 ?side2 ?side3 ?side4 Z2.1).mono ?_); (case side1 => exact St.came (by repeat (first | (with_reducible exact HS.1) | apply St.drew | apply St.drewN)) RB0.1); (case side2 => exact CB0.1); (case side3 => exact St.came (by repeat (first | (with_reducible exact HS.1) | apply St.drew | apply St.drewN)) RB1.1); (case side4 => exact CB1.1); rintro e w4 ⟨rfl, hb⟩; refine ⟨_, rfl, ?_⟩; have n_ := Aside0.mk (St.go (by repeat (first | (with_reducible exact HS.1) | apply St.drew | apply St.drewN)) hb); clear HS hb; have HS := n_; clear n_))
 clear egA0 fgA0 egA1 fgA1 egB0 fgB0 egB1 fgB1
 refine start_ (n := 11) (S := fun w' => w'.cell? ⟨gA, 0, none⟩ = some (.slice A0 a0.length c0) ∧ w'.cell? ⟨gA, 1, none⟩ = some (.slice A1 a1.length c1) ∧ w'.cell? ⟨gB, 0, none⟩ = some (.slice B0 b0.length d0) ∧ w'.cell? ⟨gB, 1, none⟩ = some (.slice B1 b1.length d1)) (ds := []) #[false, false, false, false, false, false, false, false, false, false, false] (by kernel_rfl) rfl rfl ⟨HS.1.drew.cell 1 rfl 0 rfl, HS.1.drew.cell 1 rfl 1 rfl, HS.1.drew.cell 0 rfl 0 rfl, HS.1.drew.cell 0 rfl 1 rfl⟩ (fun hHeld => ?_); refine with_tabW laws_FnExactJoinGloves.tab8 laws_FnExactJoinGloves.bits8 (fun HT_ HW_ => ?_)
 have n_ := Aside0.mk HS.1.drew
 clear HS
 have HS := n_
 clear n_
 generalize w4.drew = w11 at HS hHeld ⊢
 refine take_ (i := 0) (N := some 28) (v := ?_) (a' := ?_) #[true, false, false, false, false, false, false, false, false, false, false] rfl rfl (take_ofW HT_.1 HW_.1 (by kernel_rfl)) (fun _ _ _ h => h) (Or.inl ⟨by rfl, ?_⟩) hHeld ?_ ?_
 rotate_left
 ·rintro w' ⟨s0, s1, s2, s3⟩
  go_simp
  with_reducible rfl
 rotate_left
 ·simp only [Act.put, List.setIfInBounds_toArray, List.set_cons_zero, List.set_cons_succ, i64_w, i32_w]
  rfl
 refine take_ (i := 2) (N := some 30) (v := ?_) (a' := ?_) #[true, false, true, false, false, false, false, false, false, false, false] rfl rfl (take_ofW HT_.1 HW_.1 (by kernel_rfl)) (fun _ _ _ h => h) (Or.inl ⟨by rfl, ?_⟩) hHeld ?_ ?_
 rotate_left
 ·rintro w' ⟨s0, s1, s2, s3⟩
  go_simp
  with_reducible rfl
 rotate_left
 ·simp only [Act.put, List.setIfInBounds_toArray, List.set_cons_zero, List.set_cons_succ, i64_w, i32_w]
  rfl
 refine join_ (σ := Value × Value × Value × Value × Value × Value × Nat) 2 #[true, true, true, true, true, true, true, true, true, false, false] (fun s_ => [(29, .agg #[s_.1, s_.2.1]), (31, .agg #[s_.2.2.1, s_.2.2.2.1]), (32, .tuple #[.agg #[s_.2.2.2.2.1, s_.2.2.2.2.2.1], .bool b]), (6, .pointer (some ⟨s_.2.2.2.2.2.2, 0, none⟩)), (27, .tuple #[.agg #[s_.2.2.2.2.1, s_.2.2.2.2.2.1], .bool b]), (33, .agg #[s_.2.2.2.2.1, s_.2.2.2.2.2.1]), (34, .bool b)]) (fun s_ w' => St w w' (tBox s_.2.2.2.2.2.2 28 #[.slice none 0 0, .slice none 0 0] :: tRow s_.2.2.2.2.1 W0 :: tRow s_.2.2.2.2.2.1 W1 :: tBox gB 24 #[.slice B0 b0.length d0, .slice B1 b1.length d1] :: tBox gA 24 #[.slice A0 a0.length c0, .slice A1 a1.length c1] :: [])) ?_ ?_
 rotate_left
 ·intro hCont
  refine two_ (i := 1) (j := 8) (Ni := some 29) (Nj := some 6) #[true, true, true, false, false, false, false, false, false, false, false] #[true, false, true, false, false, false, false, false, true, false, false] rfl rfl rfl rfl (two_of HT_.1 (by kernel_rfl)) (by decide) (by decide) (fun K hK => ?_) (fun K hK => ?_)
  ·skip
   refine goes_ Try.func17 (by kernel_rfl) rfl #[.agg #[.slice A0 a0.length c0, .slice A1 a1.length c1]] (by rfl) rfl rfl (by (try simp only [List.map_toArray, List.map_cons, List.map_nil]); first | done | rfl | (simp only [List.length_drop, List.length_take]; rfl)) ?_
   with_reducible refine (laws_toGloves.calls k _ _ a0 _ _ a1 a0 a1 _ ?side1 ?side2 ?side3 ?side4 TA.1).mono ?_
   (case side1 => exact HS.1.came RA0.1)
   (case side2 => exact CA0.1)
   (case side3 => exact HS.1.came RA1.1)
   (case side4 => exact CA1.1)
   rintro e w12 ⟨u0, u1, rfl, ho0, ho1, hb⟩
   obtain ⟨P0, p0, rfl⟩ := Kd.R_slice ho0
   obtain ⟨P1, p1, rfl⟩ := Kd.R_slice ho1
   refine ⟨_, rfl, ?_⟩
   have n_ := Aside0.mk (HS.1.new2 hb ho0 ho1)
   clear HS hb ho0 ho1
   have HS := n_
   clear n_
   refine hK.out _ _ ⟨HS.1.cell 3 rfl 0 rfl, HS.1.cell 3 rfl 1 rfl, HS.1.cell 2 rfl 0 rfl, HS.1.cell 2 rfl 1 rfl⟩ (fun hHeld => ?_)
   clear hK K
   refine norm_ (a' := ?_) ?_ ?_
   rotate_left
   ·show Act.put _ (some 29) _ = _
    simp only [Act.put, List.setIfInBounds_toArray, List.set_cons_zero, List.set_cons_succ, i64_w, i32_w]
    rfl
   refine two_ (i := 3) (j := 8) (Ni := some 31) (Nj := some 6) #[true, true, true, true, false, false, false, false, false, false, false] #[true, true, true, false, false, false, false, false, true, false, false] rfl rfl rfl rfl (two_of HT_.1 (by kernel_rfl)) (by decide) (by decide) (fun K hK => ?_) (fun K hK => ?_)
   ·skip
    refine goes_ Try.func17 (by kernel_rfl) rfl #[.agg #[.slice B0 b0.length d0, .slice B1 b1.length d1]] (by rfl) rfl rfl (by (try simp only [List.map_toArray, List.map_cons, List.map_nil]); first | done | rfl | (simp only [List.length_drop, List.length_take]; rfl)) ?_
    with_reducible refine (laws_toGloves.calls k _ _ b0 _ _ b1 b0 b1 _ ?side1 ?side2 ?side3 ?side4 TB.1).mono ?_
    (case side1 => exact HS.1.came RB0.1)
    (case side2 => exact CB0.1)
    (case side3 => exact HS.1.came RB1.1)
    (case side4 => exact CB1.1)
    rintro e w13 ⟨u0, u1, rfl, ho0, ho1, hb⟩
    obtain ⟨Q0, q0_, rfl⟩ := Kd.R_slice ho0
    obtain ⟨Q1, q1_, rfl⟩ := Kd.R_slice ho1
    refine ⟨_, rfl, ?_⟩
    have n_ := Aside0.mk (HS.1.new2 hb ho0 ho1)
    clear HS hb ho0 ho1
    have HS := n_
    clear n_
    refine hK.out _ _ ⟨HS.1.cell 5 rfl 0 rfl, HS.1.cell 5 rfl 1 rfl, HS.1.cell 4 rfl 0 rfl, HS.1.cell 4 rfl 1 rfl⟩ (fun hHeld => ?_)
    clear hK K
    refine norm_ (a' := ?_) ?_ ?_
    rotate_left
    ·show Act.put _ (some 31) _ = _
     simp only [Act.put, List.setIfInBounds_toArray, List.set_cons_zero, List.set_cons_succ, i64_w, i32_w]
     rfl
    refine two_ (i := 4) (j := 8) (Ni := some 32) (Nj := some 6) #[true, true, true, true, true, false, false, false, false, false, false] #[true, true, true, true, false, false, false, false, true, false, false] rfl rfl rfl rfl (two_of HT_.1 (by kernel_rfl)) (by decide) (by decide) (fun K hK => ?_) (fun K hK => ?_)
    ·skip
     refine goes_ Try.func36 (by kernel_rfl) rfl #[.agg #[.slice P0 a0.length p0, .slice P1 a1.length p1], .agg #[.slice Q0 b0.length q0_, .slice Q1 b1.length q1_]] (by rfl) rfl rfl (by (try simp only [List.map_toArray, List.map_cons, List.map_nil]); first | done | rfl | (simp only [List.length_drop, List.length_take]; rfl)) ?_
     with_reducible refine (spec_JoinGloves.calls k _ _ a0 _ _ a1 _ _ b0 _ _ b1 W0 W1 b _ ?side1 ?side2 ?side3 ?side4 ?side5 ?side6 ?side7 ?side8 JS.1).mono ?_
     (case side1 => exact (HS.1.reads 2 rfl).1)
     (case side2 => exact (HS.1.reads 2 rfl).2.2)
     (case side3 => exact (HS.1.reads 3 rfl).1)
     (case side4 => exact (HS.1.reads 3 rfl).2.2)
     (case side5 => exact (HS.1.reads 0 rfl).1)
     (case side6 => exact (HS.1.reads 0 rfl).2.2)
     (case side7 => exact (HS.1.reads 1 rfl).1)
     (case side8 => exact (HS.1.reads 1 rfl).2.2)
     rintro e w14 ⟨v0, v1, rfl, ho0, ho1, hb⟩
     refine ⟨_, rfl, ?_⟩
     have n_ := Aside0.mk (HS.1.new2 hb ho0 ho1)
     clear HS hb ho0 ho1
     have HS := n_
     clear n_
     refine hK.out _ _ ⟨HS.1.cell 7 rfl 0 rfl, HS.1.cell 7 rfl 1 rfl, HS.1.cell 6 rfl 0 rfl, HS.1.cell 6 rfl 1 rfl⟩ (fun hHeld => ?_)
     clear hK K
     refine norm_ (a' := ?_) ?_ ?_
     rotate_left
     ·show Act.put _ (some 32) _ = _
      simp only [Act.put, List.setIfInBounds_toArray, List.set_cons_zero, List.set_cons_succ, i64_w, i32_w]
      rfl
     refine pure_ (i := 5) (N := some 27) (v := ?_) (a' := ?_) #[true, true, true, true, true, true, false, false, false, false, false] rfl rfl (any_of HT_.1 (by kernel_rfl)) (fun _ _ _ h => h) (Or.inl ⟨by rfl, ?_⟩) ?_ ?_
     rotate_left
     ·intro w'
      go_simp
      with_reducible rfl
     rotate_left
     ·simp only [Act.put, List.setIfInBounds_toArray, List.set_cons_zero, List.set_cons_succ, i64_w, i32_w]
      rfl
     refine pure_ (i := 6) (N := some 33) (v := ?_) (a' := ?_) #[true, true, true, true, true, true, true, false, false, false, false] rfl rfl (any_of HT_.1 (by kernel_rfl)) (fun _ _ _ h => h) (Or.inl ⟨by rfl, ?_⟩) ?_ ?_
     rotate_left
     ·intro w'
      go_simp
      with_reducible rfl
     rotate_left
     ·simp only [Act.put, List.setIfInBounds_toArray, List.set_cons_zero, List.set_cons_succ, i64_w, i32_w]
      rfl
     refine pure_ (i := 7) (N := some 34) (v := ?_) (a' := ?_) #[true, true, true, true, true, true, true, true, false, false, false] rfl rfl (any_of HT_.1 (by kernel_rfl)) (fun _ _ _ h => h) (Or.inl ⟨by rfl, ?_⟩) ?_ ?_
     rotate_left
     ·intro w'
      go_simp
      with_reducible rfl
     rotate_left
     ·simp only [Act.put, List.setIfInBounds_toArray, List.set_cons_zero, List.set_cons_succ, i64_w, i32_w]
      rfl
     refine one_ (i := 8) (N := some 6) #[true, true, true, true, true, true, true, true, true, false, false] rfl rfl (one_of HT_.1 (by kernel_rfl)) (by decide) (fun K hK => ?_)
     refine box_step ?hg (N := 6) ?hd (cs := #[.slice none 0 0, .slice none 0 0]) (t := 28) ?hr ?_; (case hd => rfl); (case hg => rfl); (case hr => first | (go_simp; done) | (go_simp; rfl))
     intro gW hg w15 hbox hb
     have n_ := Aside0.mk (HS.1.box hg hbox hb)
     clear HS hb hbox hg
     have HS := n_
     clear n_
     refine hK.out _ _ ⟨HS.1.cell 8 rfl 0 rfl, HS.1.cell 8 rfl 1 rfl, HS.1.cell 7 rfl 0 rfl, HS.1.cell 7 rfl 1 rfl⟩ (fun hHeld => ?_)
     clear hK K
     refine norm_ (a' := ?_) ?_ ?_
     rotate_left
     ·show Act.put _ (some 6) _ = _
      simp only [Act.put, List.setIfInBounds_toArray, List.set_cons_zero, List.set_cons_succ, i64_w, i32_w]
      rfl
     exact norm_ (by simp only [putAll, Act.put, List.setIfInBounds_toArray, List.set_cons_zero, List.set_cons_succ]) (hCont (.slice P0 a0.length p0, .slice P1 a1.length p1, .slice Q0 b0.length q0_, .slice Q1 b1.length q1_, v0, v1, gW) _ ((((HS.1.del [_, _, _]).del [_, _, _]).del [_, _, _]).del [_, _, _]))
    ·skip
     refine box_step ?hg (N := 6) ?hd (cs := #[.slice none 0 0, .slice none 0 0]) (t := 28) ?hr ?_; (case hd => rfl); (case hg => rfl); (case hr => first | (go_simp; done) | (go_simp; rfl))
     intro gW hg w16 hbox hb
     have n_ := Aside0.mk (HS.1.box hg hbox hb)
     clear HS hb hbox hg
     have HS := n_
     clear n_
     refine hK.out _ _ ⟨HS.1.cell 6 rfl 0 rfl, HS.1.cell 6 rfl 1 rfl, HS.1.cell 5 rfl 0 rfl, HS.1.cell 5 rfl 1 rfl⟩ (fun hHeld => ?_)
     clear hK K
     refine norm_ (a' := ?_) ?_ ?_
     rotate_left
     ·show Act.put _ (some 6) _ = _
      simp only [Act.put, List.setIfInBounds_toArray, List.set_cons_zero, List.set_cons_succ, i64_w, i32_w]
      rfl
     refine one_ (i := 4) (N := some 32) #[true, true, true, true, true, false, false, false, true, false, false] rfl rfl (one_of HT_.1 (by kernel_rfl)) (by decide) (fun K hK => ?_)
     refine goes_ Try.func36 (by kernel_rfl) rfl #[.agg #[.slice P0 a0.length p0, .slice P1 a1.length p1], .agg #[.slice Q0 b0.length q0_, .slice Q1 b1.length q1_]] (by rfl) rfl rfl (by (try simp only [List.map_toArray, List.map_cons, List.map_nil]); first | done | rfl | (simp only [List.length_drop, List.length_take]; rfl)) ?_
     with_reducible refine (spec_JoinGloves.calls k _ _ a0 _ _ a1 _ _ b0 _ _ b1 W0 W1 b _ ?side1 ?side2 ?side3 ?side4 ?side5 ?side6 ?side7 ?side8 JS.1).mono ?_
     (case side1 => exact (HS.1.reads 3 rfl).1)
     (case side2 => exact (HS.1.reads 3 rfl).2.2)
     (case side3 => exact (HS.1.reads 4 rfl).1)
     (case side4 => exact (HS.1.reads 4 rfl).2.2)
     (case side5 => exact (HS.1.reads 1 rfl).1)
     (case side6 => exact (HS.1.reads 1 rfl).2.2)
     (case side7 => exact (HS.1.reads 2 rfl).1)
     (case side8 => exact (HS.1.reads 2 rfl).2.2)
     rintro e w17 ⟨v0, v1, rfl, ho0, ho1, hb⟩
     refine ⟨_, rfl, ?_⟩
     have n_ := Aside0.mk (HS.1.new2 hb ho0 ho1)
     clear HS hb ho0 ho1
     have HS := n_
     clear n_
     refine hK.out _ _ ⟨HS.1.cell 8 rfl 0 rfl, HS.1.cell 8 rfl 1 rfl, HS.1.cell 7 rfl 0 rfl, HS.1.cell 7 rfl 1 rfl⟩ (fun hHeld => ?_)
     clear hK K
     refine norm_ (a' := ?_) ?_ ?_
     rotate_left
     ·show Act.put _ (some 32) _ = _
      simp only [Act.put, List.setIfInBounds_toArray, List.set_cons_zero, List.set_cons_succ, i64_w, i32_w]
      rfl
     refine pure_ (i := 5) (N := some 27) (v := ?_) (a' := ?_) #[true, true, true, true, true, true, false, false, true, false, false] rfl rfl (any_of HT_.1 (by kernel_rfl)) (fun _ _ _ h => h) (Or.inl ⟨by rfl, ?_⟩) ?_ ?_
     rotate_left
     ·intro w'
      go_simp
      with_reducible rfl
     rotate_left
     ·simp only [Act.put, List.setIfInBounds_toArray, List.set_cons_zero, List.set_cons_succ, i64_w, i32_w]
      rfl
     refine pure_ (i := 6) (N := some 33) (v := ?_) (a' := ?_) #[true, true, true, true, true, true, true, false, true, false, false] rfl rfl (any_of HT_.1 (by kernel_rfl)) (fun _ _ _ h => h) (Or.inl ⟨by rfl, ?_⟩) ?_ ?_
     rotate_left
     ·intro w'
      go_simp
      with_reducible rfl
     rotate_left
     ·simp only [Act.put, List.setIfInBounds_toArray, List.set_cons_zero, List.set_cons_succ, i64_w, i32_w]
      rfl
     refine pure_ (i := 7) (N := some 34) (v := ?_) (a' := ?_) #[true, true, true, true, true, true, true, true, true, false, false] rfl rfl (any_of HT_.1 (by kernel_rfl)) (fun _ _ _ h => h) (Or.inl ⟨by rfl, ?_⟩) ?_ ?_
     rotate_left
     ·intro w'
      go_simp
      with_reducible rfl
     rotate_left
     ·simp only [Act.put, List.setIfInBounds_toArray, List.set_cons_zero, List.set_cons_succ, i64_w, i32_w]
      rfl
     exact norm_ (by simp only [putAll, Act.put, List.setIfInBounds_toArray, List.set_cons_zero, List.set_cons_succ]) (hCont (.slice P0 a0.length p0, .slice P1 a1.length p1, .slice Q0 b0.length q0_, .slice Q1 b1.length q1_, v0, v1, gW) _ (((((HS.1.del [_, _, _]).del [_, _, _]).del [_, _, _]).del [_, _, _]).bring [_, _]))
   ·skip
    refine box_step ?hg (N := 6) ?hd (cs := #[.slice none 0 0, .slice none 0 0]) (t := 28) ?hr ?_; (case hd => rfl); (case hg => rfl); (case hr => first | (go_simp; done) | (go_simp; rfl))
    intro gW hg w18 hbox hb
    have n_ := Aside0.mk (HS.1.box hg hbox hb)
    clear HS hb hbox hg
    have HS := n_
    clear n_
    refine hK.out _ _ ⟨HS.1.cell 4 rfl 0 rfl, HS.1.cell 4 rfl 1 rfl, HS.1.cell 3 rfl 0 rfl, HS.1.cell 3 rfl 1 rfl⟩ (fun hHeld => ?_)
    clear hK K
    refine norm_ (a' := ?_) ?_ ?_
    rotate_left
    ·show Act.put _ (some 6) _ = _
     simp only [Act.put, List.setIfInBounds_toArray, List.set_cons_zero, List.set_cons_succ, i64_w, i32_w]
     rfl
    refine one_ (i := 3) (N := some 31) #[true, true, true, true, false, false, false, false, true, false, false] rfl rfl (one_of HT_.1 (by kernel_rfl)) (by decide) (fun K hK => ?_)
    refine goes_ Try.func17 (by kernel_rfl) rfl #[.agg #[.slice B0 b0.length d0, .slice B1 b1.length d1]] (by rfl) rfl rfl (by (try simp only [List.map_toArray, List.map_cons, List.map_nil]); first | done | rfl | (simp only [List.length_drop, List.length_take]; rfl)) ?_
    with_reducible refine (laws_toGloves.calls k _ _ b0 _ _ b1 b0 b1 _ ?side1 ?side2 ?side3 ?side4 TB.1).mono ?_
    (case side1 => exact HS.1.came RB0.1)
    (case side2 => exact CB0.1)
    (case side3 => exact HS.1.came RB1.1)
    (case side4 => exact CB1.1)
    rintro e w19 ⟨u0, u1, rfl, ho0, ho1, hb⟩
    obtain ⟨Q0, q0_, rfl⟩ := Kd.R_slice ho0
    obtain ⟨Q1, q1_, rfl⟩ := Kd.R_slice ho1
    refine ⟨_, rfl, ?_⟩
    have n_ := Aside0.mk (HS.1.new2 hb ho0 ho1)
    clear HS hb ho0 ho1
    have HS := n_
    clear n_
    refine hK.out _ _ ⟨HS.1.cell 6 rfl 0 rfl, HS.1.cell 6 rfl 1 rfl, HS.1.cell 5 rfl 0 rfl, HS.1.cell 5 rfl 1 rfl⟩ (fun hHeld => ?_)
    clear hK K
    refine norm_ (a' := ?_) ?_ ?_
    rotate_left
    ·show Act.put _ (some 31) _ = _
     simp only [Act.put, List.setIfInBounds_toArray, List.set_cons_zero, List.set_cons_succ, i64_w, i32_w]
     rfl
    refine one_ (i := 4) (N := some 32) #[true, true, true, true, true, false, false, false, true, false, false] rfl rfl (one_of HT_.1 (by kernel_rfl)) (by decide) (fun K hK => ?_)
    refine goes_ Try.func36 (by kernel_rfl) rfl #[.agg #[.slice P0 a0.length p0, .slice P1 a1.length p1], .agg #[.slice Q0 b0.length q0_, .slice Q1 b1.length q1_]] (by rfl) rfl rfl (by (try simp only [List.map_toArray, List.map_cons, List.map_nil]); first | done | rfl | (simp only [List.length_drop, List.length_take]; rfl)) ?_
    with_reducible refine (spec_JoinGloves.calls k _ _ a0 _ _ a1 _ _ b0 _ _ b1 W0 W1 b _ ?side1 ?side2 ?side3 ?side4 ?side5 ?side6 ?side7 ?side8 JS.1).mono ?_
    (case side1 => exact (HS.1.reads 3 rfl).1)
    (case side2 => exact (HS.1.reads 3 rfl).2.2)
    (case side3 => exact (HS.1.reads 4 rfl).1)
    (case side4 => exact (HS.1.reads 4 rfl).2.2)
    (case side5 => exact (HS.1.reads 0 rfl).1)
    (case side6 => exact (HS.1.reads 0 rfl).2.2)
    (case side7 => exact (HS.1.reads 1 rfl).1)
    (case side8 => exact (HS.1.reads 1 rfl).2.2)
    rintro e w20 ⟨v0, v1, rfl, ho0, ho1, hb⟩
    refine ⟨_, rfl, ?_⟩
    have n_ := Aside0.mk (HS.1.new2 hb ho0 ho1)
    clear HS hb ho0 ho1
    have HS := n_
    clear n_
    refine hK.out _ _ ⟨HS.1.cell 8 rfl 0 rfl, HS.1.cell 8 rfl 1 rfl, HS.1.cell 7 rfl 0 rfl, HS.1.cell 7 rfl 1 rfl⟩ (fun hHeld => ?_)
    clear hK K
    refine norm_ (a' := ?_) ?_ ?_
    rotate_left
    ·show Act.put _ (some 32) _ = _
     simp only [Act.put, List.setIfInBounds_toArray, List.set_cons_zero, List.set_cons_succ, i64_w, i32_w]
     rfl
    refine pure_ (i := 5) (N := some 27) (v := ?_) (a' := ?_) #[true, true, true, true, true, true, false, false, true, false, false] rfl rfl (any_of HT_.1 (by kernel_rfl)) (fun _ _ _ h => h) (Or.inl ⟨by rfl, ?_⟩) ?_ ?_
    rotate_left
    ·intro w'
     go_simp
     with_reducible rfl
    rotate_left
    ·simp only [Act.put, List.setIfInBounds_toArray, List.set_cons_zero, List.set_cons_succ, i64_w, i32_w]
     rfl
    refine pure_ (i := 6) (N := some 33) (v := ?_) (a' := ?_) #[true, true, true, true, true, true, true, false, true, false, false] rfl rfl (any_of HT_.1 (by kernel_rfl)) (fun _ _ _ h => h) (Or.inl ⟨by rfl, ?_⟩) ?_ ?_
    rotate_left
    ·intro w'
     go_simp
     with_reducible rfl
    rotate_left
    ·simp only [Act.put, List.setIfInBounds_toArray, List.set_cons_zero, List.set_cons_succ, i64_w, i32_w]
     rfl
    refine pure_ (i := 7) (N := some 34) (v := ?_) (a' := ?_) #[true, true, true, true, true, true, true, true, true, false, false] rfl rfl (any_of HT_.1 (by kernel_rfl)) (fun _ _ _ h => h) (Or.inl ⟨by rfl, ?_⟩) ?_ ?_
    rotate_left
    ·intro w'
     go_simp
     with_reducible rfl
    rotate_left
    ·simp only [Act.put, List.setIfInBounds_toArray, List.set_cons_zero, List.set_cons_succ, i64_w, i32_w]
     rfl
    exact norm_ (by simp only [putAll, Act.put, List.setIfInBounds_toArray, List.set_cons_zero, List.set_cons_succ]) (hCont (.slice P0 a0.length p0, .slice P1 a1.length p1, .slice Q0 b0.length q0_, .slice Q1 b1.length q1_, v0, v1, gW) _ (((((HS.1.del [_, _]).del [_, _]).del [_, _, _]).del [_, _, _]).bring [_, _]))
  ·skip
   refine box_step ?hg (N := 6) ?hd (cs := #[.slice none 0 0, .slice none 0 0]) (t := 28) ?hr ?_; (case hd => rfl); (case hg => rfl); (case hr => first | (go_simp; done) | (go_simp; rfl))
   intro gW hg w21 hbox hb
   have n_ := Aside0.mk (HS.1.box hg hbox hb)
   clear HS hb hbox hg
   have HS := n_
   clear n_
   refine hK.out _ _ ⟨HS.1.cell 2 rfl 0 rfl, HS.1.cell 2 rfl 1 rfl, HS.1.cell 1 rfl 0 rfl, HS.1.cell 1 rfl 1 rfl⟩ (fun hHeld => ?_)
   clear hK K
   refine norm_ (a' := ?_) ?_ ?_
   rotate_left
   ·show Act.put _ (some 6) _ = _
    simp only [Act.put, List.setIfInBounds_toArray, List.set_cons_zero, List.set_cons_succ, i64_w, i32_w]
    rfl
   refine one_ (i := 1) (N := some 29) #[true, true, true, false, false, false, false, false, true, false, false] rfl rfl (one_of HT_.1 (by kernel_rfl)) (by decide) (fun K hK => ?_)
   refine goes_ Try.func17 (by kernel_rfl) rfl #[.agg #[.slice A0 a0.length c0, .slice A1 a1.length c1]] (by rfl) rfl rfl (by (try simp only [List.map_toArray, List.map_cons, List.map_nil]); first | done | rfl | (simp only [List.length_drop, List.length_take]; rfl)) ?_
   with_reducible refine (laws_toGloves.calls k _ _ a0 _ _ a1 a0 a1 _ ?side1 ?side2 ?side3 ?side4 TA.1).mono ?_
   (case side1 => exact HS.1.came RA0.1)
   (case side2 => exact CA0.1)
   (case side3 => exact HS.1.came RA1.1)
   (case side4 => exact CA1.1)
   rintro e w22 ⟨u0, u1, rfl, ho0, ho1, hb⟩
   obtain ⟨P0, p0, rfl⟩ := Kd.R_slice ho0
   obtain ⟨P1, p1, rfl⟩ := Kd.R_slice ho1
   refine ⟨_, rfl, ?_⟩
   have n_ := Aside0.mk (HS.1.new2 hb ho0 ho1)
   clear HS hb ho0 ho1
   have HS := n_
   clear n_
   refine hK.out _ _ ⟨HS.1.cell 4 rfl 0 rfl, HS.1.cell 4 rfl 1 rfl, HS.1.cell 3 rfl 0 rfl, HS.1.cell 3 rfl 1 rfl⟩ (fun hHeld => ?_)
   clear hK K
   refine norm_ (a' := ?_) ?_ ?_
   rotate_left
   ·show Act.put _ (some 29) _ = _
    simp only [Act.put, List.setIfInBounds_toArray, List.set_cons_zero, List.set_cons_succ, i64_w, i32_w]
    rfl
   refine one_ (i := 3) (N := some 31) #[true, true, true, true, false, false, false, false, true, false, false] rfl rfl (one_of HT_.1 (by kernel_rfl)) (by decide) (fun K hK => ?_)
   refine goes_ Try.func17 (by kernel_rfl) rfl #[.agg #[.slice B0 b0.length d0, .slice B1 b1.length d1]] (by rfl) rfl rfl (by (try simp only [List.map_toArray, List.map_cons, List.map_nil]); first | done | rfl | (simp only [List.length_drop, List.length_take]; rfl)) ?_
   with_reducible refine (laws_toGloves.calls k _ _ b0 _ _ b1 b0 b1 _ ?side1 ?side2 ?side3 ?side4 TB.1).mono ?_
   (case side1 => exact HS.1.came RB0.1)
   (case side2 => exact CB0.1)
   (case side3 => exact HS.1.came RB1.1)
   (case side4 => exact CB1.1)
   rintro e w23 ⟨u0, u1, rfl, ho0, ho1, hb⟩
   obtain ⟨Q0, q0_, rfl⟩ := Kd.R_slice ho0
   obtain ⟨Q1, q1_, rfl⟩ := Kd.R_slice ho1
   refine ⟨_, rfl, ?_⟩
   have n_ := Aside0.mk (HS.1.new2 hb ho0 ho1)
   clear HS hb ho0 ho1
   have HS := n_
   clear n_
   refine hK.out _ _ ⟨HS.1.cell 6 rfl 0 rfl, HS.1.cell 6 rfl 1 rfl, HS.1.cell 5 rfl 0 rfl, HS.1.cell 5 rfl 1 rfl⟩ (fun hHeld => ?_)
   clear hK K
   refine norm_ (a' := ?_) ?_ ?_
   rotate_left
   ·show Act.put _ (some 31) _ = _
    simp only [Act.put, List.setIfInBounds_toArray, List.set_cons_zero, List.set_cons_succ, i64_w, i32_w]
    rfl
   refine one_ (i := 4) (N := some 32) #[true, true, true, true, true, false, false, false, true, false, false] rfl rfl (one_of HT_.1 (by kernel_rfl)) (by decide) (fun K hK => ?_)
   refine goes_ Try.func36 (by kernel_rfl) rfl #[.agg #[.slice P0 a0.length p0, .slice P1 a1.length p1], .agg #[.slice Q0 b0.length q0_, .slice Q1 b1.length q1_]] (by rfl) rfl rfl (by (try simp only [List.map_toArray, List.map_cons, List.map_nil]); first | done | rfl | (simp only [List.length_drop, List.length_take]; rfl)) ?_
   with_reducible refine (spec_JoinGloves.calls k _ _ a0 _ _ a1 _ _ b0 _ _ b1 W0 W1 b _ ?side1 ?side2 ?side3 ?side4 ?side5 ?side6 ?side7 ?side8 JS.1).mono ?_
   (case side1 => exact (HS.1.reads 2 rfl).1)
   (case side2 => exact (HS.1.reads 2 rfl).2.2)
   (case side3 => exact (HS.1.reads 3 rfl).1)
   (case side4 => exact (HS.1.reads 3 rfl).2.2)
   (case side5 => exact (HS.1.reads 0 rfl).1)
   (case side6 => exact (HS.1.reads 0 rfl).2.2)
   (case side7 => exact (HS.1.reads 1 rfl).1)
   (case side8 => exact (HS.1.reads 1 rfl).2.2)
   rintro e w24 ⟨v0, v1, rfl, ho0, ho1, hb⟩
   refine ⟨_, rfl, ?_⟩
   have n_ := Aside0.mk (HS.1.new2 hb ho0 ho1)
   clear HS hb ho0 ho1
   have HS := n_
   clear n_
   refine hK.out _ _ ⟨HS.1.cell 8 rfl 0 rfl, HS.1.cell 8 rfl 1 rfl, HS.1.cell 7 rfl 0 rfl, HS.1.cell 7 rfl 1 rfl⟩ (fun hHeld => ?_)
   clear hK K
   refine norm_ (a' := ?_) ?_ ?_
   rotate_left
   ·show Act.put _ (some 32) _ = _
    simp only [Act.put, List.setIfInBounds_toArray, List.set_cons_zero, List.set_cons_succ, i64_w, i32_w]
    rfl
   refine pure_ (i := 5) (N := some 27) (v := ?_) (a' := ?_) #[true, true, true, true, true, true, false, false, true, false, false] rfl rfl (any_of HT_.1 (by kernel_rfl)) (fun _ _ _ h => h) (Or.inl ⟨by rfl, ?_⟩) ?_ ?_
   rotate_left
   ·intro w'
    go_simp
    with_reducible rfl
   rotate_left
   ·simp only [Act.put, List.setIfInBounds_toArray, List.set_cons_zero, List.set_cons_succ, i64_w, i32_w]
    rfl
   refine pure_ (i := 6) (N := some 33) (v := ?_) (a' := ?_) #[true, true, true, true, true, true, true, false, true, false, false] rfl rfl (any_of HT_.1 (by kernel_rfl)) (fun _ _ _ h => h) (Or.inl ⟨by rfl, ?_⟩) ?_ ?_
   rotate_left
   ·intro w'
    go_simp
    with_reducible rfl
   rotate_left
   ·simp only [Act.put, List.setIfInBounds_toArray, List.set_cons_zero, List.set_cons_succ, i64_w, i32_w]
    rfl
   refine pure_ (i := 7) (N := some 34) (v := ?_) (a' := ?_) #[true, true, true, true, true, true, true, true, true, false, false] rfl rfl (any_of HT_.1 (by kernel_rfl)) (fun _ _ _ h => h) (Or.inl ⟨by rfl, ?_⟩) ?_ ?_
   rotate_left
   ·intro w'
    go_simp
    with_reducible rfl
   rotate_left
   ·simp only [Act.put, List.setIfInBounds_toArray, List.set_cons_zero, List.set_cons_succ, i64_w, i32_w]
    rfl
   exact norm_ (by simp only [putAll, Act.put, List.setIfInBounds_toArray, List.set_cons_zero, List.set_cons_succ]) (hCont (.slice P0 a0.length p0, .slice P1 a1.length p1, .slice Q0 b0.length q0_, .slice Q1 b1.length q1_, v0, v1, gW) _ (((((HS.1.del [_, _]).del [_, _]).del [_, _]).del [_, _]).bring [_, _]))
 rintro ⟨u0, u1, u2, u3, v0, v1, gW⟩ w25 hS_
 have HS : Aside0 (St w w25 (tBox gW 28 #[.slice none 0 0, .slice none 0 0] :: tRow v0 W0 :: tRow v1 W1 :: tBox gB 24 #[.slice B0 b0.length d0, .slice B1 b1.length d1] :: tBox gA 24 #[.slice A0 a0.length c0, .slice A1 a1.length c1] :: [])) := Aside0.mk hS_
 clear hS_ hHeld
 obtain ⟨E0, k0, rfl⟩ := Kd.R_slice (HS.1.row 1 rfl)
 obtain ⟨E1, k1, rfl⟩ := Kd.R_slice (HS.1.row 2 rfl)
 have hHeld : w25.cell? ⟨gA, 0, none⟩ = some (.slice A0 a0.length c0) ∧ w25.cell? ⟨gA, 1, none⟩ = some (.slice A1 a1.length c1) ∧ w25.cell? ⟨gB, 0, none⟩ = some (.slice B0 b0.length d0) ∧ w25.cell? ⟨gB, 1, none⟩ = some (.slice B1 b1.length d1) := ⟨HS.1.cell 4 rfl 0 rfl, HS.1.cell 4 rfl 1 rfl, HS.1.cell 3 rfl 0 rfl, HS.1.cell 3 rfl 1 rfl⟩
 refine norm_ (a' := ?_) ?_ ?_
 rotate_left
 ·simp only [putAll, Act.put, List.setIfInBounds_toArray, List.set_cons_zero, List.set_cons_succ]
  rfl
 refine one_ (i := 9) (N := none) #[true, true, true, true, true, true, true, true, true, true, false] rfl rfl (one_of HT_.1 (by kernel_rfl)) (by decide) (fun K hK => ?_)
 have egW0 : w25.cell? ⟨gW, 0, none⟩ = some (.slice none 0 0) := HS.1.cell 0 rfl 0 rfl
 have egW1 : w25.cell? ⟨gW, 1, none⟩ = some (.slice none 0 0) := HS.1.cell 0 rfl 1 rfl
 have fgW0 := HS.1.open_ 0 rfl 0
 have fgW1 := HS.1.open_ 0 rfl 1
 refine skip_ (w1 := ?_) (by rfl) rfl ?_ ?_
 rotate_left
 ·go_simp
  rfl
 clear egW0 egW1 fgW0 fgW1
 have n_ := Aside0.mk ((HS.1.put [] 0 (.slice E0 W0.length k0)).put [] 1 (.slice E1 W1.length k1))
 clear HS hHeld
 have HS := n_
 clear n_
 refine hK.out _ _ ⟨HS.1.cell 4 rfl 0 rfl, HS.1.cell 4 rfl 1 rfl, HS.1.cell 3 rfl 0 rfl, HS.1.cell 3 rfl 1 rfl⟩ (fun hHeld => ?_)
 clear hK K
 refine pure_ (i := 10) (N := some 7) (v := ?_) (a' := ?_) #[true, true, true, true, true, true, true, true, true, true, true] rfl rfl (any_of HT_.1 (by kernel_rfl)) (fun _ _ _ h => h) (Or.inl ⟨by rfl, ?_⟩) ?_ ?_
 rotate_left
 ·intro w'
  go_simp
  with_reducible rfl
 rotate_left
 ·simp only [Act.put, List.setIfInBounds_toArray, List.set_cons_zero, List.set_cons_succ, i64_w, i32_w]
  rfl
 refine done_ (done_of HT_.1 (by kernel_rfl)) ?_
 clear hHeld HT_ HW_
 have n_ : Aside0 (St w ((w25.setCell ⟨gW, 0, none⟩ (.slice E0 W0.length k0)).setCell ⟨gW, 1, none⟩ (.slice E1 W1.length k1)) [tBox gW 28 #[.slice E0 W0.length k0, .slice E1 W1.length k1], tRow (.slice E0 W0.length k0) W0, tRow (.slice E1 W1.length k1) W1, tBox gB 24 #[.slice B0 b0.length d0, .slice B1 b1.length d1], tBox gA 24 #[.slice A0 a0.length c0, .slice A1 a1.length c1]]) := HS
 clear HS
 have HS := n_
 clear n_
 generalize (w25.setCell ⟨gW, 0, none⟩ (.slice E0 W0.length k0)).setCell ⟨gW, 1, none⟩ (.slice E1 W1.length k1) = w26 at HS ⊢
 have egA0 : w26.cell? ⟨gA, 0, none⟩ = some (.slice A0 a0.length c0) := HS.1.cell 4 rfl 0 rfl
 have egA1 : w26.cell? ⟨gA, 1, none⟩ = some (.slice A1 a1.length c1) := HS.1.cell 4 rfl 1 rfl
 have fgA0 := HS.1.open_ 4 rfl 0
 have fgA1 := HS.1.open_ 4 rfl 1
 go_upto_region 10 with (first | ((with_reducible refine gate_callee (f := 17) rfl ?_); refine goesL_ (some 36) rfl rfl Try.func17 (by kernel_rfl) rfl #[.agg #[.slice A0 a0.length c0, .slice A1 a1.length c1]] rfl (by (try simp only [List.map_toArray, List.map_cons, List.map_nil]); first | done | rfl | (simp only [List.length_drop, List.length_take]; rfl)) ?_; (with_reducible refine (laws_toGloves.calls k _ _ a0 _ _ a1 a0 a1 _ ?side1 ?side2 ?side3 ?side4 TA.1).mono ?_); (case side1 => exact St.came (by repeat (first | (with_reducible exact HS.1) | apply St.drew | apply St.drewN)) RA0.1); (case side2 => exact CA0.1); (case side3 => exact St.came (by repeat (first | (with_reducible exact HS.1) | apply St.drew | apply St.drewN)) RA1.1); (case side4 => exact CA1.1); rintro e w27 ⟨u0, u1, rfl, ho0, ho1, hb⟩; refine ⟨_, rfl, ?_⟩; have n_ := Aside0.mk (St.new2 (by repeat (first | (with_reducible exact HS.1) | apply St.drew | apply St.drewN)) hb ho0 ho1); clear HS hb; have HS := n_; clear n_; obtain ⟨F0, x0, rfl⟩ := Kd.R_slice ho0; obtain ⟨F1, x1, rfl⟩ := Kd.R_slice ho1; clear ho0 ho1) | ((with_reducible refine gate_dst (N := 8) rfl ?_); refine box_event ?hg (N := 8) ?hd (cs := #[.slice none 0 0, .slice none 0 0]) (t := 28) ?hr ?_; (case hd => rfl); (case hg => rfl); (case hr => first | (go_simp; done) | (go_simp; rfl)); intro gX hg w28 hbox hb; have n_ := Aside0.mk (St.box (by repeat (first | (with_reducible exact HS.1) | apply St.drew | apply St.drewN)) hg hbox hb); clear HS hb hbox hg; have HS := n_; clear n_; have egX0 : w28.cell? ⟨gX, 0, none⟩ = some (.slice none 0 0) := HS.1.cell 0 rfl 0 rfl; have egX1 : w28.cell? ⟨gX, 1, none⟩ = some (.slice none 0 0) := HS.1.cell 0 rfl 1 rfl; have fgX0 := HS.1.open_ 0 rfl 0; have fgX1 := HS.1.open_ 0 rfl 1))
 (try simp only [Act.put, List.setIfInBounds_toArray, List.set_cons_zero, List.set_cons_succ])
 clear egA0 fgA0 egA1 fgA1 egX0 fgX0 egX1 fgX1
 have n_ := Aside0.mk ((HS.1.put [] 0 (.slice F0 a0.length x0)).put [] 1 (.slice F1 a1.length x1))
 clear HS
 have HS := n_
 clear n_
 have n_ : Aside0 (St w ((w28.setCell ⟨gX, 0, none⟩ (.slice F0 a0.length x0)).setCell ⟨gX, 1, none⟩ (.slice F1 a1.length x1)) [tBox gX 28 #[.slice F0 a0.length x0, .slice F1 a1.length x1], tRow (.slice F0 a0.length x0) a0, tRow (.slice F1 a1.length x1) a1, tBox gW 28 #[.slice E0 W0.length k0, .slice E1 W1.length k1], tRow (.slice E0 W0.length k0) W0, tRow (.slice E1 W1.length k1) W1, tBox gB 24 #[.slice B0 b0.length d0, .slice B1 b1.length d1], tBox gA 24 #[.slice A0 a0.length c0, .slice A1 a1.length c1]]) := HS
 clear HS
 have HS := n_
 clear n_
 generalize (w28.setCell ⟨gX, 0, none⟩ (.slice F0 a0.length x0)).setCell ⟨gX, 1, none⟩ (.slice F1 a1.length x1) = w29 at HS ⊢
 have egB0 : w29.cell? ⟨gB, 0, none⟩ = some (.slice B0 b0.length d0) := HS.1.cell 6 rfl 0 rfl
 have egB1 : w29.cell? ⟨gB, 1, none⟩ = some (.slice B1 b1.length d1) := HS.1.cell 6 rfl 1 rfl
 have fgB0 := HS.1.open_ 6 rfl 0
 have fgB1 := HS.1.open_ 6 rfl 1
 go_upto_region 11 with (first | ((with_reducible refine gate_callee (f := 17) rfl ?_); refine goesL_ (some 38) rfl rfl Try.func17 (by kernel_rfl) rfl #[.agg #[.slice B0 b0.length d0, .slice B1 b1.length d1]] rfl (by (try simp only [List.map_toArray, List.map_cons, List.map_nil]); first | done | rfl | (simp only [List.length_drop, List.length_take]; rfl)) ?_; (with_reducible refine (laws_toGloves.calls k _ _ b0 _ _ b1 b0 b1 _ ?side1 ?side2 ?side3 ?side4 TB.1).mono ?_); (case side1 => exact St.came (by repeat (first | (with_reducible exact HS.1) | apply St.drew | apply St.drewN)) RB0.1); (case side2 => exact CB0.1); (case side3 => exact St.came (by repeat (first | (with_reducible exact HS.1) | apply St.drew | apply St.drewN)) RB1.1); (case side4 => exact CB1.1); rintro e w30 ⟨u0, u1, rfl, ho0, ho1, hb⟩; refine ⟨_, rfl, ?_⟩; have n_ := Aside0.mk (St.new2 (by repeat (first | (with_reducible exact HS.1) | apply St.drew | apply St.drewN)) hb ho0 ho1); clear HS hb; have HS := n_; clear n_; obtain ⟨G0, y0, rfl⟩ := Kd.R_slice ho0; obtain ⟨G1, y1, rfl⟩ := Kd.R_slice ho1; clear ho0 ho1) | ((with_reducible refine gate_dst (N := 9) rfl ?_); refine box_event ?hg (N := 9) ?hd (cs := #[.slice none 0 0, .slice none 0 0]) (t := 28) ?hr ?_; (case hd => rfl); (case hg => rfl); (case hr => first | (go_simp; done) | (go_simp; rfl)); intro gY hg w31 hbox hb; have n_ := Aside0.mk (St.box (by repeat (first | (with_reducible exact HS.1) | apply St.drew | apply St.drewN)) hg hbox hb); clear HS hb hbox hg; have HS := n_; clear n_; have egY0 : w31.cell? ⟨gY, 0, none⟩ = some (.slice none 0 0) := HS.1.cell 0 rfl 0 rfl; have egY1 : w31.cell? ⟨gY, 1, none⟩ = some (.slice none 0 0) := HS.1.cell 0 rfl 1 rfl; have fgY0 := HS.1.open_ 0 rfl 0; have fgY1 := HS.1.open_ 0 rfl 1))
 (try simp only [Act.put, List.setIfInBounds_toArray, List.set_cons_zero, List.set_cons_succ])
 clear egB0 fgB0 egB1 fgB1 egY0 fgY0 egY1 fgY1
 have n_ := Aside0.mk ((HS.1.put [] 0 (.slice G0 b0.length y0)).put [] 1 (.slice G1 b1.length y1))
 clear HS
 have HS := n_
 clear n_
 have n_ : Aside0 (St w ((w31.setCell ⟨gY, 0, none⟩ (.slice G0 b0.length y0)).setCell ⟨gY, 1, none⟩ (.slice G1 b1.length y1)) [tBox gY 28 #[.slice G0 b0.length y0, .slice G1 b1.length y1], tRow (.slice G0 b0.length y0) b0, tRow (.slice G1 b1.length y1) b1, tBox gX 28 #[.slice F0 a0.length x0, .slice F1 a1.length x1], tRow (.slice F0 a0.length x0) a0, tRow (.slice F1 a1.length x1) a1, tBox gW 28 #[.slice E0 W0.length k0, .slice E1 W1.length k1], tRow (.slice E0 W0.length k0) W0, tRow (.slice E1 W1.length k1) W1, tBox gB 24 #[.slice B0 b0.length d0, .slice B1 b1.length d1], tBox gA 24 #[.slice A0 a0.length c0, .slice A1 a1.length c1]]) := HS
 clear HS
 have HS := n_
 clear n_
 generalize (w31.setCell ⟨gY, 0, none⟩ (.slice G0 b0.length y0)).setCell ⟨gY, 1, none⟩ (.slice G1 b1.length y1) = w32 at HS ⊢
 have egX0 : w32.cell? ⟨gX, 0, none⟩ = some (.slice F0 a0.length x0) := HS.1.cell 3 rfl 0 rfl
 have egX1 : w32.cell? ⟨gX, 1, none⟩ = some (.slice F1 a1.length x1) := HS.1.cell 3 rfl 1 rfl
 have fgX0 := HS.1.open_ 3 rfl 0
 have fgX1 := HS.1.open_ 3 rfl 1
 have egY0 : w32.cell? ⟨gY, 0, none⟩ = some (.slice G0 b0.length y0) := HS.1.cell 0 rfl 0 rfl
 have egY1 : w32.cell? ⟨gY, 1, none⟩ = some (.slice G1 b1.length y1) := HS.1.cell 0 rfl 1 rfl
 have fgY0 := HS.1.open_ 0 rfl 0
 have fgY1 := HS.1.open_ 0 rfl 1
 go_upto_region 12 with (first | ((with_reducible refine gate_callee (f := 37) rfl ?_); refine goesL_ (some 42) rfl rfl Try.func37 (by kernel_rfl) rfl #[.agg #[.slice F0 a0.length x0, .slice F1 a1.length x1], .agg #[.slice G0 b0.length y0, .slice G1 b1.length y1]] rfl (by (try simp only [List.map_toArray, List.map_cons, List.map_nil]); first | done | rfl | (simp only [List.length_drop, List.length_take]; rfl)) ?_; (with_reducible refine (impl_JoinGloves.calls k _ _ a0 _ _ a1 _ _ b0 _ _ b1 W0 W1 b _ ?side1 ?side2 ?side3 ?side4 ?side5 ?side6 ?side7 ?side8 JI.1).mono ?_); (case side1 => exact (St.reads (by repeat (first | (with_reducible exact HS.1) | apply St.drew | apply St.drewN)) 4 rfl).1); (case side2 => exact (St.reads (by repeat (first | (with_reducible exact HS.1) | apply St.drew | apply St.drewN)) 4 rfl).2.2); (case side3 => exact (St.reads (by repeat (first | (with_reducible exact HS.1) | apply St.drew | apply St.drewN)) 5 rfl).1); (case side4 => exact (St.reads (by repeat (first | (with_reducible exact HS.1) | apply St.drew | apply St.drewN)) 5 rfl).2.2); (case side5 => exact (St.reads (by repeat (first | (with_reducible exact HS.1) | apply St.drew | apply St.drewN)) 1 rfl).1); (case side6 => exact (St.reads (by repeat (first | (with_reducible exact HS.1) | apply St.drew | apply St.drewN)) 1 rfl).2.2); (case side7 => exact (St.reads (by repeat (first | (with_reducible exact HS.1) | apply St.drew | apply St.drewN)) 2 rfl).1); (case side8 => exact (St.reads (by repeat (first | (with_reducible exact HS.1) | apply St.drew | apply St.drewN)) 2 rfl).2.2); rintro e w33 ⟨u0, u1, rfl, ho0, ho1, hb⟩; refine ⟨_, rfl, ?_⟩; have n_ := Aside0.mk (St.new2 (by repeat (first | (with_reducible exact HS.1) | apply St.drew | apply St.drewN)) hb ho0 ho1); clear HS hb; have HS := n_; clear n_; obtain ⟨H0, z0, rfl⟩ := Kd.R_slice ho0; obtain ⟨H1, z1, rfl⟩ := Kd.R_slice ho1; clear ho0 ho1) | ((with_reducible refine gate_dst (N := 10) rfl ?_); refine box_event ?hg (N := 10) ?hd (cs := #[.slice none 0 0, .slice none 0 0]) (t := 28) ?hr ?_; (case hd => rfl); (case hg => rfl); (case hr => first | (go_simp; done) | (go_simp; rfl)); intro gZ hg w34 hbox hb; have n_ := Aside0.mk (St.box (by repeat (first | (with_reducible exact HS.1) | apply St.drew | apply St.drewN)) hg hbox hb); clear HS hb hbox hg; have HS := n_; clear n_; have egZ0 : w34.cell? ⟨gZ, 0, none⟩ = some (.slice none 0 0) := HS.1.cell 0 rfl 0 rfl; have egZ1 : w34.cell? ⟨gZ, 1, none⟩ = some (.slice none 0 0) := HS.1.cell 0 rfl 1 rfl; have fgZ0 := HS.1.open_ 0 rfl 0; have fgZ1 := HS.1.open_ 0 rfl 1))
 (try simp only [Act.put, List.setIfInBounds_toArray, List.set_cons_zero, List.set_cons_succ])
 clear egX0 fgX0 egX1 fgX1 egY0 fgY0 egY1 fgY1 egZ0 fgZ0 egZ1 fgZ1
 have n_ := Aside0.mk ((HS.1.put [] 0 (.slice H0 W0.length z0)).put [] 1 (.slice H1 W1.length z1))
 clear HS
 have HS := n_
 clear n_
 have n_ : Aside0 (St w ((w34.setCell ⟨gZ, 0, none⟩ (.slice H0 W0.length z0)).setCell ⟨gZ, 1, none⟩ (.slice H1 W1.length z1)) [tBox gZ 28 #[.slice H0 W0.length z0, .slice H1 W1.length z1], tRow (.slice H0 W0.length z0) W0, tRow (.slice H1 W1.length z1) W1, tBox gY 28 #[.slice G0 b0.length y0, .slice G1 b1.length y1], tRow (.slice G0 b0.length y0) b0, tRow (.slice G1 b1.length y1) b1, tBox gX 28 #[.slice F0 a0.length x0, .slice F1 a1.length x1], tRow (.slice F0 a0.length x0) a0, tRow (.slice F1 a1.length x1) a1, tBox gW 28 #[.slice E0 W0.length k0, .slice E1 W1.length k1], tRow (.slice E0 W0.length k0) W0, tRow (.slice E1 W1.length k1) W1, tBox gB 24 #[.slice B0 b0.length d0, .slice B1 b1.length d1], tBox gA 24 #[.slice A0 a0.length c0, .slice A1 a1.length c1]]) := HS
 clear HS
 have HS := n_
 clear n_
 generalize (w34.setCell ⟨gZ, 0, none⟩ (.slice H0 W0.length z0)).setCell ⟨gZ, 1, none⟩ (.slice H1 W1.length z1) = w35 at HS ⊢
 have egZ0 : w35.cell? ⟨gZ, 0, none⟩ = some (.slice H0 W0.length z0) := HS.1.cell 0 rfl 0 rfl
 have egZ1 : w35.cell? ⟨gZ, 1, none⟩ = some (.slice H1 W1.length z1) := HS.1.cell 0 rfl 1 rfl
 have fgZ0 := HS.1.open_ 0 rfl 0
 have fgZ1 := HS.1.open_ 0 rfl 1
 have egW0 : w35.cell? ⟨gW, 0, none⟩ = some (.slice E0 W0.length k0) := HS.1.cell 9 rfl 0 rfl
 have egW1 : w35.cell? ⟨gW, 1, none⟩ = some (.slice E1 W1.length k1) := HS.1.cell 9 rfl 1 rfl
 have fgW0 := HS.1.open_ 9 rfl 0
 have fgW1 := HS.1.open_ 9 rfl 1
 go_upto_region 14 with (first | ((with_reducible refine gate_callee (f := 19) rfl ?_); refine goesL_ (some 47) rfl rfl Try.func19 (by kernel_rfl) rfl #[.agg #[.slice H0 W0.length z0, .slice H1 W1.length z1], .agg #[.slice E0 W0.length k0, .slice E1 W1.length k1]] rfl (by (try simp only [List.map_toArray, List.map_cons, List.map_nil]); first | done | rfl | (simp only [List.length_drop, List.length_take]; rfl)) ?_; (with_reducible refine (laws_eqGloves.calls k _ _ W0 _ _ W1 _ _ W0 _ _ W1 true _ ?side1 ?side2 ?side3 ?side4 ?side5 ?side6 ?side7 ?side8 EW.1).mono ?_); (case side1 => exact (St.reads (by repeat (first | (with_reducible exact HS.1) | apply St.drew | apply St.drewN)) 1 rfl).1); (case side2 => exact (St.reads (by repeat (first | (with_reducible exact HS.1) | apply St.drew | apply St.drewN)) 1 rfl).2.2); (case side3 => exact (St.reads (by repeat (first | (with_reducible exact HS.1) | apply St.drew | apply St.drewN)) 2 rfl).1); (case side4 => exact (St.reads (by repeat (first | (with_reducible exact HS.1) | apply St.drew | apply St.drewN)) 2 rfl).2.2); (case side5 => exact (St.reads (by repeat (first | (with_reducible exact HS.1) | apply St.drew | apply St.drewN)) 10 rfl).1); (case side6 => exact (St.reads (by repeat (first | (with_reducible exact HS.1) | apply St.drew | apply St.drewN)) 10 rfl).2.2); (case side7 => exact (St.reads (by repeat (first | (with_reducible exact HS.1) | apply St.drew | apply St.drewN)) 11 rfl).1); (case side8 => exact (St.reads (by repeat (first | (with_reducible exact HS.1) | apply St.drew | apply St.drewN)) 11 rfl).2.2); rintro e w36 ⟨rfl, hb⟩; refine ⟨_, rfl, ?_⟩; have n_ := Aside0.mk (St.go (by repeat (first | (with_reducible exact HS.1) | apply St.drew | apply St.drewN)) hb); clear HS hb; have HS := n_; clear n_))
 (try simp only [Act.put, List.setIfInBounds_toArray, List.set_cons_zero, List.set_cons_succ])
 clear egZ0 fgZ0 egZ1 fgZ1 egW0 fgW0 egW1 fgW1
 refine start_ (n := 5) (S := fun w' => w'.cell? ⟨gX, 0, none⟩ = some (.slice F0 a0.length x0) ∧ w'.cell? ⟨gX, 1, none⟩ = some (.slice F1 a1.length x1) ∧ w'.cell? ⟨gA, 0, none⟩ = some (.slice A0 a0.length c0) ∧ w'.cell? ⟨gA, 1, none⟩ = some (.slice A1 a1.length c1)) (ds := []) #[false, false, false, false, false] (by kernel_rfl) rfl rfl ⟨HS.1.drew.cell 6 rfl 0 rfl, HS.1.drew.cell 6 rfl 1 rfl, HS.1.drew.cell 13 rfl 0 rfl, HS.1.drew.cell 13 rfl 1 rfl⟩ (fun hHeld => ?_)
 have n_ := Aside0.mk HS.1.drew
 clear HS
 have HS := n_
 clear n_
 generalize w36.drew = w37 at HS hHeld ⊢
 refine take_ (i := 0) (N := some 54) (v := ?_) (a' := ?_) #[true, false, false, false, false] rfl rfl (by kernel_rfl) (fun _ _ _ h => h) (Or.inl ⟨by rfl, ?_⟩) hHeld ?_ ?_
 rotate_left
 ·rintro w' ⟨s0, s1, s2, s3⟩
  go_simp
  with_reducible rfl
 rotate_left
 ·simp only [Act.put, List.setIfInBounds_toArray, List.set_cons_zero, List.set_cons_succ, i64_w, i32_w]
  rfl
 refine take_ (i := 1) (N := some 55) (v := ?_) (a' := ?_) #[true, true, false, false, false] rfl rfl (by kernel_rfl) (fun _ _ _ h => h) (Or.inl ⟨by rfl, ?_⟩) hHeld ?_ ?_
 rotate_left
 ·rintro w' ⟨s0, s1, s2, s3⟩
  go_simp
  with_reducible rfl
 rotate_left
 ·simp only [Act.put, List.setIfInBounds_toArray, List.set_cons_zero, List.set_cons_succ, i64_w, i32_w]
  rfl
 refine one_ (i := 2) (N := some 56) #[true, true, true, false, false] rfl rfl (by kernel_rfl) (by decide) (fun K hK => ?_)
 refine goes_ Try.func17 (by kernel_rfl) rfl #[.agg #[.slice A0 a0.length c0, .slice A1 a1.length c1]] (by rfl) rfl rfl (by (try simp only [List.map_toArray, List.map_cons, List.map_nil]); first | done | rfl | (simp only [List.length_drop, List.length_take]; rfl)) ?_
 with_reducible refine (laws_toGloves.calls k _ _ a0 _ _ a1 a0 a1 _ ?side1 ?side2 ?side3 ?side4 TA.1).mono ?_
 (case side1 => exact HS.1.came RA0.1)
 (case side2 => exact CA0.1)
 (case side3 => exact HS.1.came RA1.1)
 (case side4 => exact CA1.1)
 rintro e w38 ⟨u0, u1, rfl, ho0, ho1, hb⟩
 obtain ⟨P0, p0, rfl⟩ := Kd.R_slice ho0
 obtain ⟨P1, p1, rfl⟩ := Kd.R_slice ho1
 refine ⟨_, rfl, ?_⟩
 have n_ := Aside0.mk (HS.1.new2 hb ho0 ho1)
 clear HS hb ho0 ho1
 have HS := n_
 clear n_
 refine hK.out _ _ ⟨HS.1.cell 8 rfl 0 rfl, HS.1.cell 8 rfl 1 rfl, HS.1.cell 15 rfl 0 rfl, HS.1.cell 15 rfl 1 rfl⟩ (fun hHeld => ?_)
 clear hK K
 refine norm_ (a' := ?_) ?_ ?_
 rotate_left
 ·show Act.put _ (some 56) _ = _
  simp only [Act.put, List.setIfInBounds_toArray, List.set_cons_zero, List.set_cons_succ, i64_w, i32_w]
  rfl
 refine one_ (i := 3) (N := some 57) #[true, true, true, true, false] rfl rfl (by kernel_rfl) (by decide) (fun K hK => ?_)
 refine goes_ Try.func19 (by kernel_rfl) rfl #[.agg #[.slice F0 a0.length x0, .slice F1 a1.length x1], .agg #[.slice P0 a0.length p0, .slice P1 a1.length p1]] (by rfl) rfl rfl (by (try simp only [List.map_toArray, List.map_cons, List.map_nil]); first | done | rfl | (simp only [List.length_drop, List.length_take]; rfl)) ?_
 with_reducible refine (laws_eqGloves.calls k _ _ a0 _ _ a1 _ _ a0 _ _ a1 true _ ?side1 ?side2 ?side3 ?side4 ?side5 ?side6 ?side7 ?side8 EA.1).mono ?_
 (case side1 => exact (HS.1.reads 9 rfl).1)
 (case side2 => exact (HS.1.reads 9 rfl).2.2)
 (case side3 => exact (HS.1.reads 10 rfl).1)
 (case side4 => exact (HS.1.reads 10 rfl).2.2)
 (case side5 => exact (HS.1.reads 0 rfl).1)
 (case side6 => exact (HS.1.reads 0 rfl).2.2)
 (case side7 => exact (HS.1.reads 1 rfl).1)
 (case side8 => exact (HS.1.reads 1 rfl).2.2)
 rintro e w39 ⟨rfl, hb⟩
 refine ⟨_, rfl, ?_⟩
 have n_ := Aside0.mk ((HS.1.go hb).del [] |>.del [])
 clear HS hb
 have HS := n_
 clear n_
 refine hK.out _ _ ⟨HS.1.cell 6 rfl 0 rfl, HS.1.cell 6 rfl 1 rfl, HS.1.cell 13 rfl 0 rfl, HS.1.cell 13 rfl 1 rfl⟩ (fun hHeld => ?_)
 clear hK K
 refine norm_ (a' := ?_) ?_ ?_
 rotate_left
 ·show Act.put _ (some 57) _ = _
  simp only [Act.put, List.setIfInBounds_toArray, List.set_cons_zero, List.set_cons_succ, i64_w, i32_w]
  rfl
 refine pure_ (i := 4) (N := some 58) (v := ?_) (a' := ?_) #[true, true, true, true, true] rfl rfl (by kernel_rfl) (fun _ _ _ h => h) (Or.inl ⟨by rfl, ?_⟩) ?_ ?_
 rotate_left
 ·intro w'
  go_simp
  with_reducible rfl
 rotate_left
 ·simp only [Act.put, List.setIfInBounds_toArray, List.set_cons_zero, List.set_cons_succ, i64_w, i32_w]
  rfl
 refine done_ (by kernel_rfl) ?_
 clear hHeld
 have n_ : Aside0 (St w (w39) [tBox gZ 28 #[.slice H0 W0.length z0, .slice H1 W1.length z1], tRow (.slice H0 W0.length z0) W0, tRow (.slice H1 W1.length z1) W1, tBox gY 28 #[.slice G0 b0.length y0, .slice G1 b1.length y1], tRow (.slice G0 b0.length y0) b0, tRow (.slice G1 b1.length y1) b1, tBox gX 28 #[.slice F0 a0.length x0, .slice F1 a1.length x1], tRow (.slice F0 a0.length x0) a0, tRow (.slice F1 a1.length x1) a1, tBox gW 28 #[.slice E0 W0.length k0, .slice E1 W1.length k1], tRow (.slice E0 W0.length k0) W0, tRow (.slice E1 W1.length k1) W1, tBox gB 24 #[.slice B0 b0.length d0, .slice B1 b1.length d1], tBox gA 24 #[.slice A0 a0.length c0, .slice A1 a1.length c1]]) := HS
 clear HS
 have HS := n_
 clear n_
 (try simp only [Act.put, List.setIfInBounds_toArray, List.set_cons_zero, List.set_cons_succ])
 try go_wp2
 refine start_ (n := 5) (S := fun w' => w'.cell? ⟨gY, 0, none⟩ = some (.slice G0 b0.length y0) ∧ w'.cell? ⟨gY, 1, none⟩ = some (.slice G1 b1.length y1) ∧ w'.cell? ⟨gB, 0, none⟩ = some (.slice B0 b0.length d0) ∧ w'.cell? ⟨gB, 1, none⟩ = some (.slice B1 b1.length d1)) (ds := []) #[false, false, false, false, false] (by kernel_rfl) rfl rfl ⟨HS.1.drew.cell 3 rfl 0 rfl, HS.1.drew.cell 3 rfl 1 rfl, HS.1.drew.cell 12 rfl 0 rfl, HS.1.drew.cell 12 rfl 1 rfl⟩ (fun hHeld => ?_)
 have n_ := Aside0.mk HS.1.drew
 clear HS
 have HS := n_
 clear n_
 generalize w39.drew = w40 at HS hHeld ⊢
 refine take_ (i := 0) (N := some 59) (v := ?_) (a' := ?_) #[true, false, false, false, false] rfl rfl (by kernel_rfl) (fun _ _ _ h => h) (Or.inl ⟨by rfl, ?_⟩) hHeld ?_ ?_
 rotate_left
 ·rintro w' ⟨s0, s1, s2, s3⟩
  go_simp
  with_reducible rfl
 rotate_left
 ·simp only [Act.put, List.setIfInBounds_toArray, List.set_cons_zero, List.set_cons_succ, i64_w, i32_w]
  rfl
 refine take_ (i := 1) (N := some 60) (v := ?_) (a' := ?_) #[true, true, false, false, false] rfl rfl (by kernel_rfl) (fun _ _ _ h => h) (Or.inl ⟨by rfl, ?_⟩) hHeld ?_ ?_
 rotate_left
 ·rintro w' ⟨s0, s1, s2, s3⟩
  go_simp
  with_reducible rfl
 rotate_left
 ·simp only [Act.put, List.setIfInBounds_toArray, List.set_cons_zero, List.set_cons_succ, i64_w, i32_w]
  rfl
 refine one_ (i := 2) (N := some 61) #[true, true, true, false, false] rfl rfl (by kernel_rfl) (by decide) (fun K hK => ?_)
 refine goes_ Try.func17 (by kernel_rfl) rfl #[.agg #[.slice B0 b0.length d0, .slice B1 b1.length d1]] (by rfl) rfl rfl (by (try simp only [List.map_toArray, List.map_cons, List.map_nil]); first | done | rfl | (simp only [List.length_drop, List.length_take]; rfl)) ?_
 with_reducible refine (laws_toGloves.calls k _ _ b0 _ _ b1 b0 b1 _ ?side1 ?side2 ?side3 ?side4 TB.1).mono ?_
 (case side1 => exact HS.1.came RB0.1)
 (case side2 => exact CB0.1)
 (case side3 => exact HS.1.came RB1.1)
 (case side4 => exact CB1.1)
 rintro e w41 ⟨u0, u1, rfl, ho0, ho1, hb⟩
 obtain ⟨P0, p0, rfl⟩ := Kd.R_slice ho0
 obtain ⟨P1, p1, rfl⟩ := Kd.R_slice ho1
 refine ⟨_, rfl, ?_⟩
 have n_ := Aside0.mk (HS.1.new2 hb ho0 ho1)
 clear HS hb ho0 ho1
 have HS := n_
 clear n_
 refine hK.out _ _ ⟨HS.1.cell 5 rfl 0 rfl, HS.1.cell 5 rfl 1 rfl, HS.1.cell 14 rfl 0 rfl, HS.1.cell 14 rfl 1 rfl⟩ (fun hHeld => ?_)
 clear hK K
 refine norm_ (a' := ?_) ?_ ?_
 rotate_left
 ·show Act.put _ (some 61) _ = _
  simp only [Act.put, List.setIfInBounds_toArray, List.set_cons_zero, List.set_cons_succ, i64_w, i32_w]
  rfl
 refine one_ (i := 3) (N := some 62) #[true, true, true, true, false] rfl rfl (by kernel_rfl) (by decide) (fun K hK => ?_)
 refine goes_ Try.func19 (by kernel_rfl) rfl #[.agg #[.slice G0 b0.length y0, .slice G1 b1.length y1], .agg #[.slice P0 b0.length p0, .slice P1 b1.length p1]] (by rfl) rfl rfl (by (try simp only [List.map_toArray, List.map_cons, List.map_nil]); first | done | rfl | (simp only [List.length_drop, List.length_take]; rfl)) ?_
 with_reducible refine (laws_eqGloves.calls k _ _ b0 _ _ b1 _ _ b0 _ _ b1 true _ ?side1 ?side2 ?side3 ?side4 ?side5 ?side6 ?side7 ?side8 EB.1).mono ?_
 (case side1 => exact (HS.1.reads 6 rfl).1)
 (case side2 => exact (HS.1.reads 6 rfl).2.2)
 (case side3 => exact (HS.1.reads 7 rfl).1)
 (case side4 => exact (HS.1.reads 7 rfl).2.2)
 (case side5 => exact (HS.1.reads 0 rfl).1)
 (case side6 => exact (HS.1.reads 0 rfl).2.2)
 (case side7 => exact (HS.1.reads 1 rfl).1)
 (case side8 => exact (HS.1.reads 1 rfl).2.2)
 rintro e w42 ⟨rfl, hb⟩
 refine ⟨_, rfl, ?_⟩
 have n_ := Aside0.mk ((HS.1.go hb).del [] |>.del [])
 clear HS hb
 have HS := n_
 clear n_
 refine hK.out _ _ ⟨HS.1.cell 3 rfl 0 rfl, HS.1.cell 3 rfl 1 rfl, HS.1.cell 12 rfl 0 rfl, HS.1.cell 12 rfl 1 rfl⟩ (fun hHeld => ?_)
 clear hK K
 refine norm_ (a' := ?_) ?_ ?_
 rotate_left
 ·show Act.put _ (some 62) _ = _
  simp only [Act.put, List.setIfInBounds_toArray, List.set_cons_zero, List.set_cons_succ, i64_w, i32_w]
  rfl
 refine pure_ (i := 4) (N := some 63) (v := ?_) (a' := ?_) #[true, true, true, true, true] rfl rfl (by kernel_rfl) (fun _ _ _ h => h) (Or.inl ⟨by rfl, ?_⟩) ?_ ?_
 rotate_left
 ·intro w'
  go_simp
  with_reducible rfl
 rotate_left
 ·simp only [Act.put, List.setIfInBounds_toArray, List.set_cons_zero, List.set_cons_succ, i64_w, i32_w]
  rfl
 refine done_ (by kernel_rfl) ?_
 clear hHeld
 have n_ : Aside0 (St w (w42) [tBox gZ 28 #[.slice H0 W0.length z0, .slice H1 W1.length z1], tRow (.slice H0 W0.length z0) W0, tRow (.slice H1 W1.length z1) W1, tBox gY 28 #[.slice G0 b0.length y0, .slice G1 b1.length y1], tRow (.slice G0 b0.length y0) b0, tRow (.slice G1 b1.length y1) b1, tBox gX 28 #[.slice F0 a0.length x0, .slice F1 a1.length x1], tRow (.slice F0 a0.length x0) a0, tRow (.slice F1 a1.length x1) a1, tBox gW 28 #[.slice E0 W0.length k0, .slice E1 W1.length k1], tRow (.slice E0 W0.length k0) W0, tRow (.slice E1 W1.length k1) W1, tBox gB 24 #[.slice B0 b0.length d0, .slice B1 b1.length d1], tBox gA 24 #[.slice A0 a0.length c0, .slice A1 a1.length c1]]) := HS
 clear HS
 have HS := n_
 clear n_
 (try simp only [Act.put, List.setIfInBounds_toArray, List.set_cons_zero, List.set_cons_succ])
 have egX0 : w42.cell? ⟨gX, 0, none⟩ = some (.slice F0 a0.length x0) := HS.1.cell 6 rfl 0 rfl
 have egX1 : w42.cell? ⟨gX, 1, none⟩ = some (.slice F1 a1.length x1) := HS.1.cell 6 rfl 1 rfl
 have fgX0 := HS.1.open_ 6 rfl 0
 have fgX1 := HS.1.open_ 6 rfl 1
 go_upto_region 20 with (first | ((with_reducible refine gate_callee (f := 28) rfl ?_); refine goesL_ (some 66) rfl rfl Try.func28 (by kernel_rfl) rfl #[.agg #[.slice F0 a0.length x0, .slice F1 a1.length x1], .int .i64 (1)] rfl (by (try simp only [List.map_toArray, List.map_cons, List.map_nil]); first | done | rfl | (simp only [List.length_drop, List.length_take]; rfl)) ?_; (with_reducible refine (laws_markGloves.calls k (fun k_ => some k_ = (.slice F0 a0.length x0 : Value).ownBlock) (.slice F0 a0.length x0) a0 (fun k_ => some k_ = (.slice F1 a1.length x1 : Value).ownBlock) (.slice F1 a1.length x1) a1 (1) m1 X0 X1 w _ ?side1 ?side2 ?side3 ?side4 ?side5 MA.1).mono ?_); (case side1 => exact St.below (by repeat (first | (with_reducible exact HS.1) | apply St.drew | apply St.drewN))); (case side2 => exact St.mine (by repeat (first | (with_reducible exact HS.1) | apply St.drew | apply St.drewN)) 7 rfl); (case side3 => exact fun k_ e_ => St.two [_, _, _, _, _, _, _] (by repeat (first | exact HS.1 | apply St.drew | apply St.drewN)) k_ e_); (case side4 => exact St.mine (by repeat (first | (with_reducible exact HS.1) | apply St.drew | apply St.drewN)) 8 rfl); (case side5 => exact fun k_ e_ f_ => St.two [_, _, _, _, _, _, _] (by repeat (first | exact HS.1 | apply St.drew | apply St.drewN)) k_ f_ e_); rintro e w43 ⟨rfl, hy0, hy1, hb, hkp⟩; refine ⟨_, rfl, ?_⟩; have n_ := Aside0.mk (St.mark [_, _, _, _, _, _, _] (by repeat (first | exact HS.1 | apply St.drew | apply St.drewN)) hb hkp hy0 hy1); clear HS hb hkp hy0 hy1; have HS := n_; clear n_))
 (try simp only [Act.put, List.setIfInBounds_toArray, List.set_cons_zero, List.set_cons_succ])
 clear egX0 fgX0 egX1 fgX1
 have n_ : Aside0 (St w (w43) [tBox gZ 28 #[.slice H0 W0.length z0, .slice H1 W1.length z1], tRow (.slice H0 W0.length z0) W0, tRow (.slice H1 W1.length z1) W1, tBox gY 28 #[.slice G0 b0.length y0, .slice G1 b1.length y1], tRow (.slice G0 b0.length y0) b0, tRow (.slice G1 b1.length y1) b1, tBox gX 28 #[.slice F0 a0.length x0, .slice F1 a1.length x1], tRow (.slice F0 a0.length x0) X0, tRow (.slice F1 a1.length x1) X1, tBox gW 28 #[.slice E0 W0.length k0, .slice E1 W1.length k1], tRow (.slice E0 W0.length k0) W0, tRow (.slice E1 W1.length k1) W1, tBox gB 24 #[.slice B0 b0.length d0, .slice B1 b1.length d1], tBox gA 24 #[.slice A0 a0.length c0, .slice A1 a1.length c1]]) := HS
 clear HS
 have HS := n_
 clear n_
 have egY0 : w43.cell? ⟨gY, 0, none⟩ = some (.slice G0 b0.length y0) := HS.1.cell 3 rfl 0 rfl
 have egY1 : w43.cell? ⟨gY, 1, none⟩ = some (.slice G1 b1.length y1) := HS.1.cell 3 rfl 1 rfl
 have fgY0 := HS.1.open_ 3 rfl 0
 have fgY1 := HS.1.open_ 3 rfl 1
 go_upto_region 21 with (first | ((with_reducible refine gate_callee (f := 28) rfl ?_); refine goesL_ (some 69) rfl rfl Try.func28 (by kernel_rfl) rfl #[.agg #[.slice G0 b0.length y0, .slice G1 b1.length y1], .int .i64 (m1)] rfl (by (try simp only [List.map_toArray, List.map_cons, List.map_nil]); first | done | rfl | (simp only [List.length_drop, List.length_take]; rfl)) ?_; (with_reducible refine (laws_markGloves.calls k (fun k_ => some k_ = (.slice G0 b0.length y0 : Value).ownBlock) (.slice G0 b0.length y0) b0 (fun k_ => some k_ = (.slice G1 b1.length y1 : Value).ownBlock) (.slice G1 b1.length y1) b1 (m1) m2 Y0 Y1 w _ ?side1 ?side2 ?side3 ?side4 ?side5 MB.1).mono ?_); (case side1 => exact St.below (by repeat (first | (with_reducible exact HS.1) | apply St.drew | apply St.drewN))); (case side2 => exact St.mine (by repeat (first | (with_reducible exact HS.1) | apply St.drew | apply St.drewN)) 4 rfl); (case side3 => exact fun k_ e_ => St.two [_, _, _, _] (by repeat (first | exact HS.1 | apply St.drew | apply St.drewN)) k_ e_); (case side4 => exact St.mine (by repeat (first | (with_reducible exact HS.1) | apply St.drew | apply St.drewN)) 5 rfl); (case side5 => exact fun k_ e_ f_ => St.two [_, _, _, _] (by repeat (first | exact HS.1 | apply St.drew | apply St.drewN)) k_ f_ e_); rintro e w44 ⟨rfl, hy0, hy1, hb, hkp⟩; refine ⟨_, rfl, ?_⟩; have n_ := Aside0.mk (St.mark [_, _, _, _] (by repeat (first | exact HS.1 | apply St.drew | apply St.drewN)) hb hkp hy0 hy1); clear HS hb hkp hy0 hy1; have HS := n_; clear n_))
 (try simp only [Act.put, List.setIfInBounds_toArray, List.set_cons_zero, List.set_cons_succ])
 clear egY0 fgY0 egY1 fgY1
 have n_ : Aside0 (St w (w44) [tBox gZ 28 #[.slice H0 W0.length z0, .slice H1 W1.length z1], tRow (.slice H0 W0.length z0) W0, tRow (.slice H1 W1.length z1) W1, tBox gY 28 #[.slice G0 b0.length y0, .slice G1 b1.length y1], tRow (.slice G0 b0.length y0) Y0, tRow (.slice G1 b1.length y1) Y1, tBox gX 28 #[.slice F0 a0.length x0, .slice F1 a1.length x1], tRow (.slice F0 a0.length x0) X0, tRow (.slice F1 a1.length x1) X1, tBox gW 28 #[.slice E0 W0.length k0, .slice E1 W1.length k1], tRow (.slice E0 W0.length k0) W0, tRow (.slice E1 W1.length k1) W1, tBox gB 24 #[.slice B0 b0.length d0, .slice B1 b1.length d1], tBox gA 24 #[.slice A0 a0.length c0, .slice A1 a1.length c1]]) := HS
 clear HS
 have HS := n_
 clear n_
 have egZ0 : w44.cell? ⟨gZ, 0, none⟩ = some (.slice H0 W0.length z0) := HS.1.cell 0 rfl 0 rfl
 have egZ1 : w44.cell? ⟨gZ, 1, none⟩ = some (.slice H1 W1.length z1) := HS.1.cell 0 rfl 1 rfl
 have fgZ0 := HS.1.open_ 0 rfl 0
 have fgZ1 := HS.1.open_ 0 rfl 1
 have egW0 : w44.cell? ⟨gW, 0, none⟩ = some (.slice E0 W0.length k0) := HS.1.cell 9 rfl 0 rfl
 have egW1 : w44.cell? ⟨gW, 1, none⟩ = some (.slice E1 W1.length k1) := HS.1.cell 9 rfl 1 rfl
 have fgW0 := HS.1.open_ 9 rfl 0
 have fgW1 := HS.1.open_ 9 rfl 1
 go_upto_region 24 with (first | (go_at_call 19; (with_reducible refine (laws_eqGloves.calls k _ _ W0 _ _ W1 _ _ W0 _ _ W1 true _ ?side1 ?side2 ?side3 ?side4 ?side5 ?side6 ?side7 ?side8 EW.1).mono ?_); (case side1 => exact (St.reads (by repeat (first | (with_reducible exact HS.1) | apply St.drew | apply St.drewN)) 1 rfl).1); (case side2 => exact (St.reads (by repeat (first | (with_reducible exact HS.1) | apply St.drew | apply St.drewN)) 1 rfl).2.2); (case side3 => exact (St.reads (by repeat (first | (with_reducible exact HS.1) | apply St.drew | apply St.drewN)) 2 rfl).1); (case side4 => exact (St.reads (by repeat (first | (with_reducible exact HS.1) | apply St.drew | apply St.drewN)) 2 rfl).2.2); (case side5 => exact (St.reads (by repeat (first | (with_reducible exact HS.1) | apply St.drew | apply St.drewN)) 10 rfl).1); (case side6 => exact (St.reads (by repeat (first | (with_reducible exact HS.1) | apply St.drew | apply St.drewN)) 10 rfl).2.2); (case side7 => exact (St.reads (by repeat (first | (with_reducible exact HS.1) | apply St.drew | apply St.drewN)) 11 rfl).1); (case side8 => exact (St.reads (by repeat (first | (with_reducible exact HS.1) | apply St.drew | apply St.drewN)) 11 rfl).2.2); rintro e w45 ⟨rfl, hb⟩; have n_ := Aside0.mk (St.go (by repeat (first | (with_reducible exact HS.1) | apply St.drew | apply St.drewN)) hb); clear HS hb; have HS := n_; clear n_))
 (try simp only [Act.put, List.setIfInBounds_toArray, List.set_cons_zero, List.set_cons_succ])
 clear egZ0 fgZ0 egZ1 fgZ1 egW0 fgW0 egW1 fgW1
 have n_ := Aside0.mk ((((((HS.1.del [_, _, _, _, _, _]).del [_, _, _, _, _, _]).del [_, _, _, _, _, _]).del [_, _, _]).del [_, _, _]).del [_, _, _])
 clear HS
 have HS := n_
 clear n_
 have n_ : Aside0 (St w (w45) [tBox gZ 28 #[.slice H0 W0.length z0, .slice H1 W1.length z1], tRow (.slice H0 W0.length z0) W0, tRow (.slice H1 W1.length z1) W1, tBox gW 28 #[.slice E0 W0.length k0, .slice E1 W1.length k1], tRow (.slice E0 W0.length k0) W0, tRow (.slice E1 W1.length k1) W1, tBox gB 24 #[.slice B0 b0.length d0, .slice B1 b1.length d1], tBox gA 24 #[.slice A0 a0.length c0, .slice A1 a1.length c1]]) := HS
 clear HS
 have HS := n_
 clear n_
 have egZ0 : w45.cell? ⟨gZ, 0, none⟩ = some (.slice H0 W0.length z0) := HS.1.cell 0 rfl 0 rfl
 have egZ1 : w45.cell? ⟨gZ, 1, none⟩ = some (.slice H1 W1.length z1) := HS.1.cell 0 rfl 1 rfl
 have fgZ0 := HS.1.open_ 0 rfl 0
 have fgZ1 := HS.1.open_ 0 rfl 1
 go_upto_region 26 with (first | ((with_reducible refine gate_callee (f := 28) rfl ?_); refine goesL_ (some 85) rfl rfl Try.func28 (by kernel_rfl) rfl #[.agg #[.slice H0 W0.length z0, .slice H1 W1.length z1], .int .i64 (1)] rfl (by (try simp only [List.map_toArray, List.map_cons, List.map_nil]); first | done | rfl | (simp only [List.length_drop, List.length_take]; rfl)) ?_; (with_reducible refine (laws_markGloves.calls k (fun k_ => some k_ = (.slice H0 W0.length z0 : Value).ownBlock) (.slice H0 W0.length z0) W0 (fun k_ => some k_ = (.slice H1 W1.length z1 : Value).ownBlock) (.slice H1 W1.length z1) W1 (1) m3 V0 V1 w _ ?side1 ?side2 ?side3 ?side4 ?side5 MW.1).mono ?_); (case side1 => exact St.below (by repeat (first | (with_reducible exact HS.1) | apply St.drew | apply St.drewN))); (case side2 => exact St.mine (by repeat (first | (with_reducible exact HS.1) | apply St.drew | apply St.drewN)) 1 rfl); (case side3 => exact fun k_ e_ => St.two [_] (by repeat (first | exact HS.1 | apply St.drew | apply St.drewN)) k_ e_); (case side4 => exact St.mine (by repeat (first | (with_reducible exact HS.1) | apply St.drew | apply St.drewN)) 2 rfl); (case side5 => exact fun k_ e_ f_ => St.two [_] (by repeat (first | exact HS.1 | apply St.drew | apply St.drewN)) k_ f_ e_); rintro e w46 ⟨rfl, hy0, hy1, hb, hkp⟩; refine ⟨_, rfl, ?_⟩; have n_ := Aside0.mk (St.mark [_] (by repeat (first | exact HS.1 | apply St.drew | apply St.drewN)) hb hkp hy0 hy1); clear HS hb hkp hy0 hy1; have HS := n_; clear n_))
 (try simp only [Act.put, List.setIfInBounds_toArray, List.set_cons_zero, List.set_cons_succ])
 clear egZ0 fgZ0 egZ1 fgZ1
 have n_ : Aside0 (St w (w46) [tBox gZ 28 #[.slice H0 W0.length z0, .slice H1 W1.length z1], tRow (.slice H0 W0.length z0) V0, tRow (.slice H1 W1.length z1) V1, tBox gW 28 #[.slice E0 W0.length k0, .slice E1 W1.length k1], tRow (.slice E0 W0.length k0) W0, tRow (.slice E1 W1.length k1) W1, tBox gB 24 #[.slice B0 b0.length d0, .slice B1 b1.length d1], tBox gA 24 #[.slice A0 a0.length c0, .slice A1 a1.length c1]]) := HS
 clear HS
 have HS := n_
 clear n_
 have LV0 := Aside0.mk (HS.1.reads 1 rfl).2.1
 have LV1 := Aside0.mk (HS.1.reads 2 rfl).2.1
 have egZ0 : w46.cell? ⟨gZ, 0, none⟩ = some (.slice H0 W0.length z0) := HS.1.cell 0 rfl 0 rfl
 have egZ1 : w46.cell? ⟨gZ, 1, none⟩ = some (.slice H1 W1.length z1) := HS.1.cell 0 rfl 1 rfl
 have fgZ0 := HS.1.open_ 0 rfl 0
 have fgZ1 := HS.1.open_ 0 rfl 1
 go_upto_region 31 with (first | ((with_reducible refine gate_callee (f := 29) rfl ?_); refine goesL_ (some 88) rfl rfl Try.func29 (by kernel_rfl) rfl #[.agg #[.slice H0 V0.length z0, .slice H1 V1.length z1], .int .i64 1] rfl (by simp only [List.map_toArray, List.map_cons, List.map_nil, ← LV0.1, ← LV1.1]; rfl) ?_; (with_reducible refine (laws_heldGloves.calls k _ _ V0 _ _ V1 1 m3 _ ?side1 ?side2 ?side3 ?side4 HW.1).mono ?_); (case side1 => exact (St.reads (by repeat (first | (with_reducible exact HS.1) | apply St.drew | apply St.drewN)) 1 rfl).1); (case side2 => exact (by have h_ := St.reads (by repeat (first | (with_reducible exact HS.1) | apply St.drew | apply St.drewN)) 1 rfl; omega)); (case side3 => exact (St.reads (by repeat (first | (with_reducible exact HS.1) | apply St.drew | apply St.drewN)) 2 rfl).1); (case side4 => exact (by have h_ := St.reads (by repeat (first | (with_reducible exact HS.1) | apply St.drew | apply St.drewN)) 2 rfl; omega)); rintro e w47 ⟨rfl, hb⟩; refine ⟨_, rfl, ?_⟩; have n_ := Aside0.mk (St.go (by repeat (first | (with_reducible exact HS.1) | apply St.drew | apply St.drewN)) hb); clear HS hb; have HS := n_; clear n_))
 (try simp only [Act.put, List.setIfInBounds_toArray, List.set_cons_zero, List.set_cons_succ])
 clear egZ0 fgZ0 egZ1 fgZ1
 refine start_ (n := 11) (S := fun w' => w'.cell? ⟨gA, 0, none⟩ = some (.slice A0 a0.length c0) ∧ w'.cell? ⟨gA, 1, none⟩ = some (.slice A1 a1.length c1) ∧ w'.cell? ⟨gB, 0, none⟩ = some (.slice B0 b0.length d0) ∧ w'.cell? ⟨gB, 1, none⟩ = some (.slice B1 b1.length d1)) (ds := []) #[false, false, false, false, false, false, false, false, false, false, false] (by kernel_rfl) rfl rfl ⟨HS.1.drew.cell 7 rfl 0 rfl, HS.1.drew.cell 7 rfl 1 rfl, HS.1.drew.cell 6 rfl 0 rfl, HS.1.drew.cell 6 rfl 1 rfl⟩ (fun hHeld => ?_); refine with_tabW laws_FnExactJoinGloves.tab31 laws_FnExactJoinGloves.bits31 (fun HT_ HW_ => ?_)
 have n_ := Aside0.mk HS.1.drew
 clear HS
 have HS := n_
 clear n_
 generalize w47.drew = w48 at HS hHeld ⊢
 refine take_ (i := 0) (N := some 95) (v := ?_) (a' := ?_) #[true, false, false, false, false, false, false, false, false, false, false] rfl rfl (take_ofW HT_.1 HW_.1 (by kernel_rfl)) (fun _ _ _ h => h) (Or.inl ⟨by rfl, ?_⟩) hHeld ?_ ?_
 rotate_left
 ·rintro w' ⟨s0, s1, s2, s3⟩
  go_simp
  with_reducible rfl
 rotate_left
 ·simp only [Act.put, List.setIfInBounds_toArray, List.set_cons_zero, List.set_cons_succ, i64_w, i32_w]
  rfl
 refine take_ (i := 2) (N := some 97) (v := ?_) (a' := ?_) #[true, false, true, false, false, false, false, false, false, false, false] rfl rfl (take_ofW HT_.1 HW_.1 (by kernel_rfl)) (fun _ _ _ h => h) (Or.inl ⟨by rfl, ?_⟩) hHeld ?_ ?_
 rotate_left
 ·rintro w' ⟨s0, s1, s2, s3⟩
  go_simp
  with_reducible rfl
 rotate_left
 ·simp only [Act.put, List.setIfInBounds_toArray, List.set_cons_zero, List.set_cons_succ, i64_w, i32_w]
  rfl
 refine join_ (σ := Value × Value × Value × Value × Value × Value × Nat) 2 #[true, true, true, true, true, true, true, true, true, false, false] (fun s_ => [(96, .agg #[s_.1, s_.2.1]), (98, .agg #[s_.2.2.1, s_.2.2.2.1]), (99, .tuple #[.agg #[s_.2.2.2.2.1, s_.2.2.2.2.2.1], .bool b]), (15, .pointer (some ⟨s_.2.2.2.2.2.2, 0, none⟩)), (94, .tuple #[.agg #[s_.2.2.2.2.1, s_.2.2.2.2.2.1], .bool b]), (100, .agg #[s_.2.2.2.2.1, s_.2.2.2.2.2.1]), (101, .bool b)]) (fun s_ w' => St w w' (tBox s_.2.2.2.2.2.2 28 #[.slice none 0 0, .slice none 0 0] :: tRow s_.2.2.2.2.1 W0 :: tRow s_.2.2.2.2.2.1 W1 :: tBox gZ 28 #[.slice H0 W0.length z0, .slice H1 W1.length z1] :: tRow (.slice H0 W0.length z0) V0 :: tRow (.slice H1 W1.length z1) V1 :: tBox gW 28 #[.slice E0 W0.length k0, .slice E1 W1.length k1] :: tRow (.slice E0 W0.length k0) W0 :: tRow (.slice E1 W1.length k1) W1 :: tBox gB 24 #[.slice B0 b0.length d0, .slice B1 b1.length d1] :: tBox gA 24 #[.slice A0 a0.length c0, .slice A1 a1.length c1] :: [])) ?_ ?_
 rotate_left
 ·intro hCont
  refine two_ (i := 1) (j := 8) (Ni := some 96) (Nj := some 15) #[true, true, true, false, false, false, false, false, false, false, false] #[true, false, true, false, false, false, false, false, true, false, false] rfl rfl rfl rfl (two_of HT_.1 (by kernel_rfl)) (by decide) (by decide) (fun K hK => ?_) (fun K hK => ?_)
  ·skip
   refine goes_ Try.func17 (by kernel_rfl) rfl #[.agg #[.slice A0 a0.length c0, .slice A1 a1.length c1]] (by rfl) rfl rfl (by (try simp only [List.map_toArray, List.map_cons, List.map_nil]); first | done | rfl | (simp only [List.length_drop, List.length_take]; rfl)) ?_
   with_reducible refine (laws_toGloves.calls k _ _ a0 _ _ a1 a0 a1 _ ?side1 ?side2 ?side3 ?side4 TA.1).mono ?_
   (case side1 => exact HS.1.came RA0.1)
   (case side2 => exact CA0.1)
   (case side3 => exact HS.1.came RA1.1)
   (case side4 => exact CA1.1)
   rintro e w49 ⟨u0, u1, rfl, ho0, ho1, hb⟩
   obtain ⟨P0, p0, rfl⟩ := Kd.R_slice ho0
   obtain ⟨P1, p1, rfl⟩ := Kd.R_slice ho1
   refine ⟨_, rfl, ?_⟩
   have n_ := Aside0.mk (HS.1.new2 hb ho0 ho1)
   clear HS hb ho0 ho1
   have HS := n_
   clear n_
   refine hK.out _ _ ⟨HS.1.cell 9 rfl 0 rfl, HS.1.cell 9 rfl 1 rfl, HS.1.cell 8 rfl 0 rfl, HS.1.cell 8 rfl 1 rfl⟩ (fun hHeld => ?_)
   clear hK K
   refine norm_ (a' := ?_) ?_ ?_
   rotate_left
   ·show Act.put _ (some 96) _ = _
    simp only [Act.put, List.setIfInBounds_toArray, List.set_cons_zero, List.set_cons_succ, i64_w, i32_w]
    rfl
   refine two_ (i := 3) (j := 8) (Ni := some 98) (Nj := some 15) #[true, true, true, true, false, false, false, false, false, false, false] #[true, true, true, false, false, false, false, false, true, false, false] rfl rfl rfl rfl (two_of HT_.1 (by kernel_rfl)) (by decide) (by decide) (fun K hK => ?_) (fun K hK => ?_)
   ·skip
    refine goes_ Try.func17 (by kernel_rfl) rfl #[.agg #[.slice B0 b0.length d0, .slice B1 b1.length d1]] (by rfl) rfl rfl (by (try simp only [List.map_toArray, List.map_cons, List.map_nil]); first | done | rfl | (simp only [List.length_drop, List.length_take]; rfl)) ?_
    with_reducible refine (laws_toGloves.calls k _ _ b0 _ _ b1 b0 b1 _ ?side1 ?side2 ?side3 ?side4 TB.1).mono ?_
    (case side1 => exact HS.1.came RB0.1)
    (case side2 => exact CB0.1)
    (case side3 => exact HS.1.came RB1.1)
    (case side4 => exact CB1.1)
    rintro e w50 ⟨u0, u1, rfl, ho0, ho1, hb⟩
    obtain ⟨Q0, q0_, rfl⟩ := Kd.R_slice ho0
    obtain ⟨Q1, q1_, rfl⟩ := Kd.R_slice ho1
    refine ⟨_, rfl, ?_⟩
    have n_ := Aside0.mk (HS.1.new2 hb ho0 ho1)
    clear HS hb ho0 ho1
    have HS := n_
    clear n_
    refine hK.out _ _ ⟨HS.1.cell 11 rfl 0 rfl, HS.1.cell 11 rfl 1 rfl, HS.1.cell 10 rfl 0 rfl, HS.1.cell 10 rfl 1 rfl⟩ (fun hHeld => ?_)
    clear hK K
    refine norm_ (a' := ?_) ?_ ?_
    rotate_left
    ·show Act.put _ (some 98) _ = _
     simp only [Act.put, List.setIfInBounds_toArray, List.set_cons_zero, List.set_cons_succ, i64_w, i32_w]
     rfl
    refine two_ (i := 4) (j := 8) (Ni := some 99) (Nj := some 15) #[true, true, true, true, true, false, false, false, false, false, false] #[true, true, true, true, false, false, false, false, true, false, false] rfl rfl rfl rfl (two_of HT_.1 (by kernel_rfl)) (by decide) (by decide) (fun K hK => ?_) (fun K hK => ?_)
    ·skip
     refine goes_ Try.func37 (by kernel_rfl) rfl #[.agg #[.slice P0 a0.length p0, .slice P1 a1.length p1], .agg #[.slice Q0 b0.length q0_, .slice Q1 b1.length q1_]] (by rfl) rfl rfl (by (try simp only [List.map_toArray, List.map_cons, List.map_nil]); first | done | rfl | (simp only [List.length_drop, List.length_take]; rfl)) ?_
     with_reducible refine (impl_JoinGloves.calls k _ _ a0 _ _ a1 _ _ b0 _ _ b1 W0 W1 b _ ?side1 ?side2 ?side3 ?side4 ?side5 ?side6 ?side7 ?side8 JI.1).mono ?_
     (case side1 => exact (HS.1.reads 2 rfl).1)
     (case side2 => exact (HS.1.reads 2 rfl).2.2)
     (case side3 => exact (HS.1.reads 3 rfl).1)
     (case side4 => exact (HS.1.reads 3 rfl).2.2)
     (case side5 => exact (HS.1.reads 0 rfl).1)
     (case side6 => exact (HS.1.reads 0 rfl).2.2)
     (case side7 => exact (HS.1.reads 1 rfl).1)
     (case side8 => exact (HS.1.reads 1 rfl).2.2)
     rintro e w51 ⟨v0, v1, rfl, ho0, ho1, hb⟩
     refine ⟨_, rfl, ?_⟩
     have n_ := Aside0.mk (HS.1.new2 hb ho0 ho1)
     clear HS hb ho0 ho1
     have HS := n_
     clear n_
     refine hK.out _ _ ⟨HS.1.cell 13 rfl 0 rfl, HS.1.cell 13 rfl 1 rfl, HS.1.cell 12 rfl 0 rfl, HS.1.cell 12 rfl 1 rfl⟩ (fun hHeld => ?_)
     clear hK K
     refine norm_ (a' := ?_) ?_ ?_
     rotate_left
     ·show Act.put _ (some 99) _ = _
      simp only [Act.put, List.setIfInBounds_toArray, List.set_cons_zero, List.set_cons_succ, i64_w, i32_w]
      rfl
     refine pure_ (i := 5) (N := some 94) (v := ?_) (a' := ?_) #[true, true, true, true, true, true, false, false, false, false, false] rfl rfl (any_of HT_.1 (by kernel_rfl)) (fun _ _ _ h => h) (Or.inl ⟨by rfl, ?_⟩) ?_ ?_
     rotate_left
     ·intro w'
      go_simp
      with_reducible rfl
     rotate_left
     ·simp only [Act.put, List.setIfInBounds_toArray, List.set_cons_zero, List.set_cons_succ, i64_w, i32_w]
      rfl
     refine pure_ (i := 6) (N := some 100) (v := ?_) (a' := ?_) #[true, true, true, true, true, true, true, false, false, false, false] rfl rfl (any_of HT_.1 (by kernel_rfl)) (fun _ _ _ h => h) (Or.inl ⟨by rfl, ?_⟩) ?_ ?_
     rotate_left
     ·intro w'
      go_simp
      with_reducible rfl
     rotate_left
     ·simp only [Act.put, List.setIfInBounds_toArray, List.set_cons_zero, List.set_cons_succ, i64_w, i32_w]
      rfl
     refine pure_ (i := 7) (N := some 101) (v := ?_) (a' := ?_) #[true, true, true, true, true, true, true, true, false, false, false] rfl rfl (any_of HT_.1 (by kernel_rfl)) (fun _ _ _ h => h) (Or.inl ⟨by rfl, ?_⟩) ?_ ?_
     rotate_left
     ·intro w'
      go_simp
      with_reducible rfl
     rotate_left
     ·simp only [Act.put, List.setIfInBounds_toArray, List.set_cons_zero, List.set_cons_succ, i64_w, i32_w]
      rfl
     refine one_ (i := 8) (N := some 15) #[true, true, true, true, true, true, true, true, true, false, false] rfl rfl (one_of HT_.1 (by kernel_rfl)) (by decide) (fun K hK => ?_)
     refine box_step ?hg (N := 15) ?hd (cs := #[.slice none 0 0, .slice none 0 0]) (t := 28) ?hr ?_; (case hd => rfl); (case hg => rfl); (case hr => first | (go_simp; done) | (go_simp; rfl))
     intro gJ hg w52 hbox hb
     have n_ := Aside0.mk (HS.1.box hg hbox hb)
     clear HS hb hbox hg
     have HS := n_
     clear n_
     refine hK.out _ _ ⟨HS.1.cell 14 rfl 0 rfl, HS.1.cell 14 rfl 1 rfl, HS.1.cell 13 rfl 0 rfl, HS.1.cell 13 rfl 1 rfl⟩ (fun hHeld => ?_)
     clear hK K
     refine norm_ (a' := ?_) ?_ ?_
     rotate_left
     ·show Act.put _ (some 15) _ = _
      simp only [Act.put, List.setIfInBounds_toArray, List.set_cons_zero, List.set_cons_succ, i64_w, i32_w]
      rfl
     exact norm_ (by simp only [putAll, Act.put, List.setIfInBounds_toArray, List.set_cons_zero, List.set_cons_succ]) (hCont (.slice P0 a0.length p0, .slice P1 a1.length p1, .slice Q0 b0.length q0_, .slice Q1 b1.length q1_, v0, v1, gJ) _ ((((HS.1.del [_, _, _]).del [_, _, _]).del [_, _, _]).del [_, _, _]))
    ·skip
     refine box_step ?hg (N := 15) ?hd (cs := #[.slice none 0 0, .slice none 0 0]) (t := 28) ?hr ?_; (case hd => rfl); (case hg => rfl); (case hr => first | (go_simp; done) | (go_simp; rfl))
     intro gJ hg w53 hbox hb
     have n_ := Aside0.mk (HS.1.box hg hbox hb)
     clear HS hb hbox hg
     have HS := n_
     clear n_
     refine hK.out _ _ ⟨HS.1.cell 12 rfl 0 rfl, HS.1.cell 12 rfl 1 rfl, HS.1.cell 11 rfl 0 rfl, HS.1.cell 11 rfl 1 rfl⟩ (fun hHeld => ?_)
     clear hK K
     refine norm_ (a' := ?_) ?_ ?_
     rotate_left
     ·show Act.put _ (some 15) _ = _
      simp only [Act.put, List.setIfInBounds_toArray, List.set_cons_zero, List.set_cons_succ, i64_w, i32_w]
      rfl
     refine one_ (i := 4) (N := some 99) #[true, true, true, true, true, false, false, false, true, false, false] rfl rfl (one_of HT_.1 (by kernel_rfl)) (by decide) (fun K hK => ?_)
     refine goes_ Try.func37 (by kernel_rfl) rfl #[.agg #[.slice P0 a0.length p0, .slice P1 a1.length p1], .agg #[.slice Q0 b0.length q0_, .slice Q1 b1.length q1_]] (by rfl) rfl rfl (by (try simp only [List.map_toArray, List.map_cons, List.map_nil]); first | done | rfl | (simp only [List.length_drop, List.length_take]; rfl)) ?_
     with_reducible refine (impl_JoinGloves.calls k _ _ a0 _ _ a1 _ _ b0 _ _ b1 W0 W1 b _ ?side1 ?side2 ?side3 ?side4 ?side5 ?side6 ?side7 ?side8 JI.1).mono ?_
     (case side1 => exact (HS.1.reads 3 rfl).1)
     (case side2 => exact (HS.1.reads 3 rfl).2.2)
     (case side3 => exact (HS.1.reads 4 rfl).1)
     (case side4 => exact (HS.1.reads 4 rfl).2.2)
     (case side5 => exact (HS.1.reads 1 rfl).1)
     (case side6 => exact (HS.1.reads 1 rfl).2.2)
     (case side7 => exact (HS.1.reads 2 rfl).1)
     (case side8 => exact (HS.1.reads 2 rfl).2.2)
     rintro e w54 ⟨v0, v1, rfl, ho0, ho1, hb⟩
     refine ⟨_, rfl, ?_⟩
     have n_ := Aside0.mk (HS.1.new2 hb ho0 ho1)
     clear HS hb ho0 ho1
     have HS := n_
     clear n_
     refine hK.out _ _ ⟨HS.1.cell 14 rfl 0 rfl, HS.1.cell 14 rfl 1 rfl, HS.1.cell 13 rfl 0 rfl, HS.1.cell 13 rfl 1 rfl⟩ (fun hHeld => ?_)
     clear hK K
     refine norm_ (a' := ?_) ?_ ?_
     rotate_left
     ·show Act.put _ (some 99) _ = _
      simp only [Act.put, List.setIfInBounds_toArray, List.set_cons_zero, List.set_cons_succ, i64_w, i32_w]
      rfl
     refine pure_ (i := 5) (N := some 94) (v := ?_) (a' := ?_) #[true, true, true, true, true, true, false, false, true, false, false] rfl rfl (any_of HT_.1 (by kernel_rfl)) (fun _ _ _ h => h) (Or.inl ⟨by rfl, ?_⟩) ?_ ?_
     rotate_left
     ·intro w'
      go_simp
      with_reducible rfl
     rotate_left
     ·simp only [Act.put, List.setIfInBounds_toArray, List.set_cons_zero, List.set_cons_succ, i64_w, i32_w]
      rfl
     refine pure_ (i := 6) (N := some 100) (v := ?_) (a' := ?_) #[true, true, true, true, true, true, true, false, true, false, false] rfl rfl (any_of HT_.1 (by kernel_rfl)) (fun _ _ _ h => h) (Or.inl ⟨by rfl, ?_⟩) ?_ ?_
     rotate_left
     ·intro w'
      go_simp
      with_reducible rfl
     rotate_left
     ·simp only [Act.put, List.setIfInBounds_toArray, List.set_cons_zero, List.set_cons_succ, i64_w, i32_w]
      rfl
     refine pure_ (i := 7) (N := some 101) (v := ?_) (a' := ?_) #[true, true, true, true, true, true, true, true, true, false, false] rfl rfl (any_of HT_.1 (by kernel_rfl)) (fun _ _ _ h => h) (Or.inl ⟨by rfl, ?_⟩) ?_ ?_
     rotate_left
     ·intro w'
      go_simp
      with_reducible rfl
     rotate_left
     ·simp only [Act.put, List.setIfInBounds_toArray, List.set_cons_zero, List.set_cons_succ, i64_w, i32_w]
      rfl
     exact norm_ (by simp only [putAll, Act.put, List.setIfInBounds_toArray, List.set_cons_zero, List.set_cons_succ]) (hCont (.slice P0 a0.length p0, .slice P1 a1.length p1, .slice Q0 b0.length q0_, .slice Q1 b1.length q1_, v0, v1, gJ) _ (((((HS.1.del [_, _, _]).del [_, _, _]).del [_, _, _]).del [_, _, _]).bring [_, _]))
   ·skip
    refine box_step ?hg (N := 15) ?hd (cs := #[.slice none 0 0, .slice none 0 0]) (t := 28) ?hr ?_; (case hd => rfl); (case hg => rfl); (case hr => first | (go_simp; done) | (go_simp; rfl))
    intro gJ hg w55 hbox hb
    have n_ := Aside0.mk (HS.1.box hg hbox hb)
    clear HS hb hbox hg
    have HS := n_
    clear n_
    refine hK.out _ _ ⟨HS.1.cell 10 rfl 0 rfl, HS.1.cell 10 rfl 1 rfl, HS.1.cell 9 rfl 0 rfl, HS.1.cell 9 rfl 1 rfl⟩ (fun hHeld => ?_)
    clear hK K
    refine norm_ (a' := ?_) ?_ ?_
    rotate_left
    ·show Act.put _ (some 15) _ = _
     simp only [Act.put, List.setIfInBounds_toArray, List.set_cons_zero, List.set_cons_succ, i64_w, i32_w]
     rfl
    refine one_ (i := 3) (N := some 98) #[true, true, true, true, false, false, false, false, true, false, false] rfl rfl (one_of HT_.1 (by kernel_rfl)) (by decide) (fun K hK => ?_)
    refine goes_ Try.func17 (by kernel_rfl) rfl #[.agg #[.slice B0 b0.length d0, .slice B1 b1.length d1]] (by rfl) rfl rfl (by (try simp only [List.map_toArray, List.map_cons, List.map_nil]); first | done | rfl | (simp only [List.length_drop, List.length_take]; rfl)) ?_
    with_reducible refine (laws_toGloves.calls k _ _ b0 _ _ b1 b0 b1 _ ?side1 ?side2 ?side3 ?side4 TB.1).mono ?_
    (case side1 => exact HS.1.came RB0.1)
    (case side2 => exact CB0.1)
    (case side3 => exact HS.1.came RB1.1)
    (case side4 => exact CB1.1)
    rintro e w56 ⟨u0, u1, rfl, ho0, ho1, hb⟩
    obtain ⟨Q0, q0_, rfl⟩ := Kd.R_slice ho0
    obtain ⟨Q1, q1_, rfl⟩ := Kd.R_slice ho1
    refine ⟨_, rfl, ?_⟩
    have n_ := Aside0.mk (HS.1.new2 hb ho0 ho1)
    clear HS hb ho0 ho1
    have HS := n_
    clear n_
    refine hK.out _ _ ⟨HS.1.cell 12 rfl 0 rfl, HS.1.cell 12 rfl 1 rfl, HS.1.cell 11 rfl 0 rfl, HS.1.cell 11 rfl 1 rfl⟩ (fun hHeld => ?_)
    clear hK K
    refine norm_ (a' := ?_) ?_ ?_
    rotate_left
    ·show Act.put _ (some 98) _ = _
     simp only [Act.put, List.setIfInBounds_toArray, List.set_cons_zero, List.set_cons_succ, i64_w, i32_w]
     rfl
    refine one_ (i := 4) (N := some 99) #[true, true, true, true, true, false, false, false, true, false, false] rfl rfl (one_of HT_.1 (by kernel_rfl)) (by decide) (fun K hK => ?_)
    refine goes_ Try.func37 (by kernel_rfl) rfl #[.agg #[.slice P0 a0.length p0, .slice P1 a1.length p1], .agg #[.slice Q0 b0.length q0_, .slice Q1 b1.length q1_]] (by rfl) rfl rfl (by (try simp only [List.map_toArray, List.map_cons, List.map_nil]); first | done | rfl | (simp only [List.length_drop, List.length_take]; rfl)) ?_
    with_reducible refine (impl_JoinGloves.calls k _ _ a0 _ _ a1 _ _ b0 _ _ b1 W0 W1 b _ ?side1 ?side2 ?side3 ?side4 ?side5 ?side6 ?side7 ?side8 JI.1).mono ?_
    (case side1 => exact (HS.1.reads 3 rfl).1)
    (case side2 => exact (HS.1.reads 3 rfl).2.2)
    (case side3 => exact (HS.1.reads 4 rfl).1)
    (case side4 => exact (HS.1.reads 4 rfl).2.2)
    (case side5 => exact (HS.1.reads 0 rfl).1)
    (case side6 => exact (HS.1.reads 0 rfl).2.2)
    (case side7 => exact (HS.1.reads 1 rfl).1)
    (case side8 => exact (HS.1.reads 1 rfl).2.2)
    rintro e w57 ⟨v0, v1, rfl, ho0, ho1, hb⟩
    refine ⟨_, rfl, ?_⟩
    have n_ := Aside0.mk (HS.1.new2 hb ho0 ho1)
    clear HS hb ho0 ho1
    have HS := n_
    clear n_
    refine hK.out _ _ ⟨HS.1.cell 14 rfl 0 rfl, HS.1.cell 14 rfl 1 rfl, HS.1.cell 13 rfl 0 rfl, HS.1.cell 13 rfl 1 rfl⟩ (fun hHeld => ?_)
    clear hK K
    refine norm_ (a' := ?_) ?_ ?_
    rotate_left
    ·show Act.put _ (some 99) _ = _
     simp only [Act.put, List.setIfInBounds_toArray, List.set_cons_zero, List.set_cons_succ, i64_w, i32_w]
     rfl
    refine pure_ (i := 5) (N := some 94) (v := ?_) (a' := ?_) #[true, true, true, true, true, true, false, false, true, false, false] rfl rfl (any_of HT_.1 (by kernel_rfl)) (fun _ _ _ h => h) (Or.inl ⟨by rfl, ?_⟩) ?_ ?_
    rotate_left
    ·intro w'
     go_simp
     with_reducible rfl
    rotate_left
    ·simp only [Act.put, List.setIfInBounds_toArray, List.set_cons_zero, List.set_cons_succ, i64_w, i32_w]
     rfl
    refine pure_ (i := 6) (N := some 100) (v := ?_) (a' := ?_) #[true, true, true, true, true, true, true, false, true, false, false] rfl rfl (any_of HT_.1 (by kernel_rfl)) (fun _ _ _ h => h) (Or.inl ⟨by rfl, ?_⟩) ?_ ?_
    rotate_left
    ·intro w'
     go_simp
     with_reducible rfl
    rotate_left
    ·simp only [Act.put, List.setIfInBounds_toArray, List.set_cons_zero, List.set_cons_succ, i64_w, i32_w]
     rfl
    refine pure_ (i := 7) (N := some 101) (v := ?_) (a' := ?_) #[true, true, true, true, true, true, true, true, true, false, false] rfl rfl (any_of HT_.1 (by kernel_rfl)) (fun _ _ _ h => h) (Or.inl ⟨by rfl, ?_⟩) ?_ ?_
    rotate_left
    ·intro w'
     go_simp
     with_reducible rfl
    rotate_left
    ·simp only [Act.put, List.setIfInBounds_toArray, List.set_cons_zero, List.set_cons_succ, i64_w, i32_w]
     rfl
    exact norm_ (by simp only [putAll, Act.put, List.setIfInBounds_toArray, List.set_cons_zero, List.set_cons_succ]) (hCont (.slice P0 a0.length p0, .slice P1 a1.length p1, .slice Q0 b0.length q0_, .slice Q1 b1.length q1_, v0, v1, gJ) _ (((((HS.1.del [_, _]).del [_, _]).del [_, _, _]).del [_, _, _]).bring [_, _]))
  ·skip
   refine box_step ?hg (N := 15) ?hd (cs := #[.slice none 0 0, .slice none 0 0]) (t := 28) ?hr ?_; (case hd => rfl); (case hg => rfl); (case hr => first | (go_simp; done) | (go_simp; rfl))
   intro gJ hg w58 hbox hb
   have n_ := Aside0.mk (HS.1.box hg hbox hb)
   clear HS hb hbox hg
   have HS := n_
   clear n_
   refine hK.out _ _ ⟨HS.1.cell 8 rfl 0 rfl, HS.1.cell 8 rfl 1 rfl, HS.1.cell 7 rfl 0 rfl, HS.1.cell 7 rfl 1 rfl⟩ (fun hHeld => ?_)
   clear hK K
   refine norm_ (a' := ?_) ?_ ?_
   rotate_left
   ·show Act.put _ (some 15) _ = _
    simp only [Act.put, List.setIfInBounds_toArray, List.set_cons_zero, List.set_cons_succ, i64_w, i32_w]
    rfl
   refine one_ (i := 1) (N := some 96) #[true, true, true, false, false, false, false, false, true, false, false] rfl rfl (one_of HT_.1 (by kernel_rfl)) (by decide) (fun K hK => ?_)
   refine goes_ Try.func17 (by kernel_rfl) rfl #[.agg #[.slice A0 a0.length c0, .slice A1 a1.length c1]] (by rfl) rfl rfl (by (try simp only [List.map_toArray, List.map_cons, List.map_nil]); first | done | rfl | (simp only [List.length_drop, List.length_take]; rfl)) ?_
   with_reducible refine (laws_toGloves.calls k _ _ a0 _ _ a1 a0 a1 _ ?side1 ?side2 ?side3 ?side4 TA.1).mono ?_
   (case side1 => exact HS.1.came RA0.1)
   (case side2 => exact CA0.1)
   (case side3 => exact HS.1.came RA1.1)
   (case side4 => exact CA1.1)
   rintro e w59 ⟨u0, u1, rfl, ho0, ho1, hb⟩
   obtain ⟨P0, p0, rfl⟩ := Kd.R_slice ho0
   obtain ⟨P1, p1, rfl⟩ := Kd.R_slice ho1
   refine ⟨_, rfl, ?_⟩
   have n_ := Aside0.mk (HS.1.new2 hb ho0 ho1)
   clear HS hb ho0 ho1
   have HS := n_
   clear n_
   refine hK.out _ _ ⟨HS.1.cell 10 rfl 0 rfl, HS.1.cell 10 rfl 1 rfl, HS.1.cell 9 rfl 0 rfl, HS.1.cell 9 rfl 1 rfl⟩ (fun hHeld => ?_)
   clear hK K
   refine norm_ (a' := ?_) ?_ ?_
   rotate_left
   ·show Act.put _ (some 96) _ = _
    simp only [Act.put, List.setIfInBounds_toArray, List.set_cons_zero, List.set_cons_succ, i64_w, i32_w]
    rfl
   refine one_ (i := 3) (N := some 98) #[true, true, true, true, false, false, false, false, true, false, false] rfl rfl (one_of HT_.1 (by kernel_rfl)) (by decide) (fun K hK => ?_)
   refine goes_ Try.func17 (by kernel_rfl) rfl #[.agg #[.slice B0 b0.length d0, .slice B1 b1.length d1]] (by rfl) rfl rfl (by (try simp only [List.map_toArray, List.map_cons, List.map_nil]); first | done | rfl | (simp only [List.length_drop, List.length_take]; rfl)) ?_
   with_reducible refine (laws_toGloves.calls k _ _ b0 _ _ b1 b0 b1 _ ?side1 ?side2 ?side3 ?side4 TB.1).mono ?_
   (case side1 => exact HS.1.came RB0.1)
   (case side2 => exact CB0.1)
   (case side3 => exact HS.1.came RB1.1)
   (case side4 => exact CB1.1)
   rintro e w60 ⟨u0, u1, rfl, ho0, ho1, hb⟩
   obtain ⟨Q0, q0_, rfl⟩ := Kd.R_slice ho0
   obtain ⟨Q1, q1_, rfl⟩ := Kd.R_slice ho1
   refine ⟨_, rfl, ?_⟩
   have n_ := Aside0.mk (HS.1.new2 hb ho0 ho1)
   clear HS hb ho0 ho1
   have HS := n_
   clear n_
   refine hK.out _ _ ⟨HS.1.cell 12 rfl 0 rfl, HS.1.cell 12 rfl 1 rfl, HS.1.cell 11 rfl 0 rfl, HS.1.cell 11 rfl 1 rfl⟩ (fun hHeld => ?_)
   clear hK K
   refine norm_ (a' := ?_) ?_ ?_
   rotate_left
   ·show Act.put _ (some 98) _ = _
    simp only [Act.put, List.setIfInBounds_toArray, List.set_cons_zero, List.set_cons_succ, i64_w, i32_w]
    rfl
   refine one_ (i := 4) (N := some 99) #[true, true, true, true, true, false, false, false, true, false, false] rfl rfl (one_of HT_.1 (by kernel_rfl)) (by decide) (fun K hK => ?_)
   refine goes_ Try.func37 (by kernel_rfl) rfl #[.agg #[.slice P0 a0.length p0, .slice P1 a1.length p1], .agg #[.slice Q0 b0.length q0_, .slice Q1 b1.length q1_]] (by rfl) rfl rfl (by (try simp only [List.map_toArray, List.map_cons, List.map_nil]); first | done | rfl | (simp only [List.length_drop, List.length_take]; rfl)) ?_
   with_reducible refine (impl_JoinGloves.calls k _ _ a0 _ _ a1 _ _ b0 _ _ b1 W0 W1 b _ ?side1 ?side2 ?side3 ?side4 ?side5 ?side6 ?side7 ?side8 JI.1).mono ?_
   (case side1 => exact (HS.1.reads 2 rfl).1)
   (case side2 => exact (HS.1.reads 2 rfl).2.2)
   (case side3 => exact (HS.1.reads 3 rfl).1)
   (case side4 => exact (HS.1.reads 3 rfl).2.2)
   (case side5 => exact (HS.1.reads 0 rfl).1)
   (case side6 => exact (HS.1.reads 0 rfl).2.2)
   (case side7 => exact (HS.1.reads 1 rfl).1)
   (case side8 => exact (HS.1.reads 1 rfl).2.2)
   rintro e w61 ⟨v0, v1, rfl, ho0, ho1, hb⟩
   refine ⟨_, rfl, ?_⟩
   have n_ := Aside0.mk (HS.1.new2 hb ho0 ho1)
   clear HS hb ho0 ho1
   have HS := n_
   clear n_
   refine hK.out _ _ ⟨HS.1.cell 14 rfl 0 rfl, HS.1.cell 14 rfl 1 rfl, HS.1.cell 13 rfl 0 rfl, HS.1.cell 13 rfl 1 rfl⟩ (fun hHeld => ?_)
   clear hK K
   refine norm_ (a' := ?_) ?_ ?_
   rotate_left
   ·show Act.put _ (some 99) _ = _
    simp only [Act.put, List.setIfInBounds_toArray, List.set_cons_zero, List.set_cons_succ, i64_w, i32_w]
    rfl
   refine pure_ (i := 5) (N := some 94) (v := ?_) (a' := ?_) #[true, true, true, true, true, true, false, false, true, false, false] rfl rfl (any_of HT_.1 (by kernel_rfl)) (fun _ _ _ h => h) (Or.inl ⟨by rfl, ?_⟩) ?_ ?_
   rotate_left
   ·intro w'
    go_simp
    with_reducible rfl
   rotate_left
   ·simp only [Act.put, List.setIfInBounds_toArray, List.set_cons_zero, List.set_cons_succ, i64_w, i32_w]
    rfl
   refine pure_ (i := 6) (N := some 100) (v := ?_) (a' := ?_) #[true, true, true, true, true, true, true, false, true, false, false] rfl rfl (any_of HT_.1 (by kernel_rfl)) (fun _ _ _ h => h) (Or.inl ⟨by rfl, ?_⟩) ?_ ?_
   rotate_left
   ·intro w'
    go_simp
    with_reducible rfl
   rotate_left
   ·simp only [Act.put, List.setIfInBounds_toArray, List.set_cons_zero, List.set_cons_succ, i64_w, i32_w]
    rfl
   refine pure_ (i := 7) (N := some 101) (v := ?_) (a' := ?_) #[true, true, true, true, true, true, true, true, true, false, false] rfl rfl (any_of HT_.1 (by kernel_rfl)) (fun _ _ _ h => h) (Or.inl ⟨by rfl, ?_⟩) ?_ ?_
   rotate_left
   ·intro w'
    go_simp
    with_reducible rfl
   rotate_left
   ·simp only [Act.put, List.setIfInBounds_toArray, List.set_cons_zero, List.set_cons_succ, i64_w, i32_w]
    rfl
   exact norm_ (by simp only [putAll, Act.put, List.setIfInBounds_toArray, List.set_cons_zero, List.set_cons_succ]) (hCont (.slice P0 a0.length p0, .slice P1 a1.length p1, .slice Q0 b0.length q0_, .slice Q1 b1.length q1_, v0, v1, gJ) _ (((((HS.1.del [_, _]).del [_, _]).del [_, _]).del [_, _]).bring [_, _]))
 rintro ⟨u0, u1, u2, u3, v0, v1, gJ⟩ w62 hS_
 have HS : Aside0 (St w w62 (tBox gJ 28 #[.slice none 0 0, .slice none 0 0] :: tRow v0 W0 :: tRow v1 W1 :: tBox gZ 28 #[.slice H0 W0.length z0, .slice H1 W1.length z1] :: tRow (.slice H0 W0.length z0) V0 :: tRow (.slice H1 W1.length z1) V1 :: tBox gW 28 #[.slice E0 W0.length k0, .slice E1 W1.length k1] :: tRow (.slice E0 W0.length k0) W0 :: tRow (.slice E1 W1.length k1) W1 :: tBox gB 24 #[.slice B0 b0.length d0, .slice B1 b1.length d1] :: tBox gA 24 #[.slice A0 a0.length c0, .slice A1 a1.length c1] :: [])) := Aside0.mk hS_
 clear hS_ hHeld
 obtain ⟨J0, j0_, rfl⟩ := Kd.R_slice (HS.1.row 1 rfl)
 obtain ⟨J1, j1_, rfl⟩ := Kd.R_slice (HS.1.row 2 rfl)
 have hHeld : w62.cell? ⟨gA, 0, none⟩ = some (.slice A0 a0.length c0) ∧ w62.cell? ⟨gA, 1, none⟩ = some (.slice A1 a1.length c1) ∧ w62.cell? ⟨gB, 0, none⟩ = some (.slice B0 b0.length d0) ∧ w62.cell? ⟨gB, 1, none⟩ = some (.slice B1 b1.length d1) := ⟨HS.1.cell 10 rfl 0 rfl, HS.1.cell 10 rfl 1 rfl, HS.1.cell 9 rfl 0 rfl, HS.1.cell 9 rfl 1 rfl⟩
 refine norm_ (a' := ?_) ?_ ?_
 rotate_left
 ·simp only [putAll, Act.put, List.setIfInBounds_toArray, List.set_cons_zero, List.set_cons_succ]
  rfl
 refine one_ (i := 9) (N := none) #[true, true, true, true, true, true, true, true, true, true, false] rfl rfl (one_of HT_.1 (by kernel_rfl)) (by decide) (fun K hK => ?_)
 have egJ0 : w62.cell? ⟨gJ, 0, none⟩ = some (.slice none 0 0) := HS.1.cell 0 rfl 0 rfl
 have egJ1 : w62.cell? ⟨gJ, 1, none⟩ = some (.slice none 0 0) := HS.1.cell 0 rfl 1 rfl
 have fgJ0 := HS.1.open_ 0 rfl 0
 have fgJ1 := HS.1.open_ 0 rfl 1
 refine skip_ (w1 := ?_) (by rfl) rfl ?_ ?_
 rotate_left
 ·go_simp
  rfl
 clear egJ0 egJ1 fgJ0 fgJ1
 have n_ := Aside0.mk ((HS.1.put [] 0 (.slice J0 W0.length j0_)).put [] 1 (.slice J1 W1.length j1_))
 clear HS hHeld
 have HS := n_
 clear n_
 refine hK.out _ _ ⟨HS.1.cell 10 rfl 0 rfl, HS.1.cell 10 rfl 1 rfl, HS.1.cell 9 rfl 0 rfl, HS.1.cell 9 rfl 1 rfl⟩ (fun hHeld => ?_)
 clear hK K
 refine pure_ (i := 10) (N := some 16) (v := ?_) (a' := ?_) #[true, true, true, true, true, true, true, true, true, true, true] rfl rfl (any_of HT_.1 (by kernel_rfl)) (fun _ _ _ h => h) (Or.inl ⟨by rfl, ?_⟩) ?_ ?_
 rotate_left
 ·intro w'
  go_simp
  with_reducible rfl
 rotate_left
 ·simp only [Act.put, List.setIfInBounds_toArray, List.set_cons_zero, List.set_cons_succ, i64_w, i32_w]
  rfl
 refine done_ (done_of HT_.1 (by kernel_rfl)) ?_
 clear hHeld HT_ HW_
 have n_ : Aside0 (St w ((w62.setCell ⟨gJ, 0, none⟩ (.slice J0 W0.length j0_)).setCell ⟨gJ, 1, none⟩ (.slice J1 W1.length j1_)) [tBox gJ 28 #[.slice J0 W0.length j0_, .slice J1 W1.length j1_], tRow (.slice J0 W0.length j0_) W0, tRow (.slice J1 W1.length j1_) W1, tBox gZ 28 #[.slice H0 W0.length z0, .slice H1 W1.length z1], tRow (.slice H0 W0.length z0) V0, tRow (.slice H1 W1.length z1) V1, tBox gW 28 #[.slice E0 W0.length k0, .slice E1 W1.length k1], tRow (.slice E0 W0.length k0) W0, tRow (.slice E1 W1.length k1) W1, tBox gB 24 #[.slice B0 b0.length d0, .slice B1 b1.length d1], tBox gA 24 #[.slice A0 a0.length c0, .slice A1 a1.length c1]]) := HS
 clear HS
 have HS := n_
 clear n_
 generalize (w62.setCell ⟨gJ, 0, none⟩ (.slice J0 W0.length j0_)).setCell ⟨gJ, 1, none⟩ (.slice J1 W1.length j1_) = w63 at HS ⊢
 have egJ0 : w63.cell? ⟨gJ, 0, none⟩ = some (.slice J0 W0.length j0_) := HS.1.cell 0 rfl 0 rfl
 have egJ1 : w63.cell? ⟨gJ, 1, none⟩ = some (.slice J1 W1.length j1_) := HS.1.cell 0 rfl 1 rfl
 have fgJ0 := HS.1.open_ 0 rfl 0
 have fgJ1 := HS.1.open_ 0 rfl 1
 have egW0 : w63.cell? ⟨gW, 0, none⟩ = some (.slice E0 W0.length k0) := HS.1.cell 6 rfl 0 rfl
 have egW1 : w63.cell? ⟨gW, 1, none⟩ = some (.slice E1 W1.length k1) := HS.1.cell 6 rfl 1 rfl
 have fgW0 := HS.1.open_ 6 rfl 0
 have fgW1 := HS.1.open_ 6 rfl 1
 go_upto_region 34 with (first | ((with_reducible refine gate_callee (f := 19) rfl ?_); refine goesL_ (some 104) rfl rfl Try.func19 (by kernel_rfl) rfl #[.agg #[.slice J0 W0.length j0_, .slice J1 W1.length j1_], .agg #[.slice E0 W0.length k0, .slice E1 W1.length k1]] rfl (by (try simp only [List.map_toArray, List.map_cons, List.map_nil]); first | done | rfl | (simp only [List.length_drop, List.length_take]; rfl)) ?_; (with_reducible refine (laws_eqGloves.calls k _ _ W0 _ _ W1 _ _ W0 _ _ W1 true _ ?side1 ?side2 ?side3 ?side4 ?side5 ?side6 ?side7 ?side8 EW.1).mono ?_); (case side1 => exact (St.reads (by repeat (first | (with_reducible exact HS.1) | apply St.drew | apply St.drewN)) 1 rfl).1); (case side2 => exact (St.reads (by repeat (first | (with_reducible exact HS.1) | apply St.drew | apply St.drewN)) 1 rfl).2.2); (case side3 => exact (St.reads (by repeat (first | (with_reducible exact HS.1) | apply St.drew | apply St.drewN)) 2 rfl).1); (case side4 => exact (St.reads (by repeat (first | (with_reducible exact HS.1) | apply St.drew | apply St.drewN)) 2 rfl).2.2); (case side5 => exact (St.reads (by repeat (first | (with_reducible exact HS.1) | apply St.drew | apply St.drewN)) 7 rfl).1); (case side6 => exact (St.reads (by repeat (first | (with_reducible exact HS.1) | apply St.drew | apply St.drewN)) 7 rfl).2.2); (case side7 => exact (St.reads (by repeat (first | (with_reducible exact HS.1) | apply St.drew | apply St.drewN)) 8 rfl).1); (case side8 => exact (St.reads (by repeat (first | (with_reducible exact HS.1) | apply St.drew | apply St.drewN)) 8 rfl).2.2); rintro e w64 ⟨rfl, hb⟩; refine ⟨_, rfl, ?_⟩; have n_ := Aside0.mk (St.go (by repeat (first | (with_reducible exact HS.1) | apply St.drew | apply St.drewN)) hb); clear HS hb; have HS := n_; clear n_))
 (try simp only [Act.put, List.setIfInBounds_toArray, List.set_cons_zero, List.set_cons_succ])
 clear egJ0 fgJ0 egJ1 fgJ1 egW0 fgW0 egW1 fgW1
 have egZ0 : w64.cell? ⟨gZ, 0, none⟩ = some (.slice H0 W0.length z0) := HS.1.cell 3 rfl 0 rfl
 have egZ1 : w64.cell? ⟨gZ, 1, none⟩ = some (.slice H1 W1.length z1) := HS.1.cell 3 rfl 1 rfl
 have fgZ0 := HS.1.open_ 3 rfl 0
 have fgZ1 := HS.1.open_ 3 rfl 1
 go_wp2_with (first | ((with_reducible refine gate_callee (f := 29) rfl ?_); refine goesL_ (some 113) rfl rfl Try.func29 (by kernel_rfl) rfl #[.agg #[.slice H0 V0.length z0, .slice H1 V1.length z1], .int .i64 1] rfl (by simp only [List.map_toArray, List.map_cons, List.map_nil, ← LV0.1, ← LV1.1]; rfl) ?_; (with_reducible refine (laws_heldGloves.calls k _ _ V0 _ _ V1 1 m3 _ ?side1 ?side2 ?side3 ?side4 HW.1).mono ?_); (case side1 => exact (St.reads (by repeat (first | (with_reducible exact HS.1) | apply St.drew | apply St.drewN)) 4 rfl).1); (case side2 => exact (by have h_ := St.reads (by repeat (first | (with_reducible exact HS.1) | apply St.drew | apply St.drewN)) 4 rfl; omega)); (case side3 => exact (St.reads (by repeat (first | (with_reducible exact HS.1) | apply St.drew | apply St.drewN)) 5 rfl).1); (case side4 => exact (by have h_ := St.reads (by repeat (first | (with_reducible exact HS.1) | apply St.drew | apply St.drewN)) 5 rfl; omega)); rintro e w65 ⟨rfl, hb⟩; refine ⟨_, rfl, ?_⟩; have n_ := Aside0.mk (St.go (by repeat (first | (with_reducible exact HS.1) | apply St.drew | apply St.drewN)) hb); clear HS hb; have HS := n_; clear n_))
 go_ret
 exact ⟨rfl, St.below (by repeat (first | (with_reducible exact HS.1) | apply St.drew | apply St.drewN))⟩
/-- What is to be shown of the lists alone: too large, or all that the law reckons comes out. -/
def JGood (k : Nat) (s1 s2 m1 m2 m3 : Int) (W0 W1 X0 X1 Y0 Y1 V0 V1 : List Int) (b : Bool) (a0 a1 b0 b1 : List Int) : Prop :=
  laws_szGloves.f a0 a1 1048576 = some s1 ∧ ¬ s1 < 0 ∧ laws_szGloves.f b0 b1 s1 = some s2 ∧ ¬ s2 < 0 ∧
  laws_toGloves.f k a0 a1 = some (a0, a1) ∧ laws_toGloves.f k b0 b1 = some (b0, b1) ∧ spec_JoinGloves.f k a0 a1 b0 b1 = some (W0, W1, b) ∧ impl_JoinGloves.f k a0 a1 b0 b1 = some (W0, W1, b) ∧
  laws_eqGloves.f k a0 a1 a0 a1 = some true ∧ laws_eqGloves.f k b0 b1 b0 b1 = some true ∧ laws_eqGloves.f k W0 W1 W0 W1 = some true ∧
  laws_markGloves.f k a0 a1 1 = some (m1, X0, X1) ∧ laws_markGloves.f k b0 b1 m1 = some (m2, Y0, Y1) ∧ ¬ m2 < 0 ∧ laws_markGloves.f k W0 W1 1 = some (m3, V0, V1) ∧ laws_heldGloves.f k V0 V1 1 = some m3 ∧ ¬ m3 < 0
def laws_FnExactJoinGloves.Pure : Prop := ∀ (a0 a1 b0 b1 : List Int), a0.length * 8 ≤ 140737488351232 → a1.length * 8 ≤ 140737488351232 → b0.length * 8 ≤ 140737488351232 → b1.length * 8 ≤ 140737488351232 →
  (∃ s1, laws_szGloves.f a0 a1 1048576 = some s1 ∧ s1 < 0) ∨ (∃ s1 s2, laws_szGloves.f a0 a1 1048576 = some s1 ∧ ¬ s1 < 0 ∧ laws_szGloves.f b0 b1 s1 = some s2 ∧ s2 < 0) ∨
  ∃ k s1 s2 m1 m2 m3 W0 W1 X0 X1 Y0 Y1 V0 V1 b, JGood k s1 s2 m1 m2 m3 W0 W1 X0 X1 Y0 Y1 V0 V1 b a0 a1 b0 b1
theorem laws_FnExactJoinGloves.walk (P : laws_FnExactJoinGloves.Pure) (a0_0 : Option Addr) (len0_0 cap0_0 : Nat) (z0_0 : List Int) (a0_1 : Option Addr) (len0_1 cap0_1 : Nat) (z0_1 : List Int) (a1_0 : Option Addr) (len1_0 cap1_0 : Nat) (z1_0 : List Int) (a1_1 : Option Addr) (len1_1 cap1_1 : Nat) (z1_1 : List Int) (w : World) (w0_0 : (a0_0 = none ∧ len0_0 = 0 ∧ cap0_0 = 0 ∧ z0_0 = []) ∨ ∃ x, a0_0 = some x ∧ len0_0 ≤ cap0_0 ∧ cap0_0 ≤ maxLen ∧ z0_0.length = cap0_0 ∧ (∀ i, i < z0_0.length → w.cell? (x.add i) = some (.int .i64 (z0_0.getD i 0))) ∧ ∀ n ∈ z0_0, (Lit.int .i64 n).wf = true) (y0_0 : len0_0 * 8 ≤ 140737488351232) (w0_1 : (a0_1 = none ∧ len0_1 = 0 ∧ cap0_1 = 0 ∧ z0_1 = []) ∨ ∃ x, a0_1 = some x ∧ len0_1 ≤ cap0_1 ∧ cap0_1 ≤ maxLen ∧ z0_1.length = cap0_1 ∧ (∀ i, i < z0_1.length → w.cell? (x.add i) = some (.int .i64 (z0_1.getD i 0))) ∧ ∀ n ∈ z0_1, (Lit.int .i64 n).wf = true) (y0_1 : len0_1 * 8 ≤ 140737488351232) (w1_0 : (a1_0 = none ∧ len1_0 = 0 ∧ cap1_0 = 0 ∧ z1_0 = []) ∨ ∃ x, a1_0 = some x ∧ len1_0 ≤ cap1_0 ∧ cap1_0 ≤ maxLen ∧ z1_0.length = cap1_0 ∧ (∀ i, i < z1_0.length → w.cell? (x.add i) = some (.int .i64 (z1_0.getD i 0))) ∧ ∀ n ∈ z1_0, (Lit.int .i64 n).wf = true) (y1_0 : len1_0 * 8 ≤ 140737488351232) (w1_1 : (a1_1 = none ∧ len1_1 = 0 ∧ cap1_1 = 0 ∧ z1_1 = []) ∨ ∃ x, a1_1 = some x ∧ len1_1 ≤ cap1_1 ∧ cap1_1 ≤ maxLen ∧ z1_1.length = cap1_1 ∧ (∀ i, i < z1_1.length → w.cell? (x.add i) = some (.int .i64 (z1_1.getD i 0))) ∧ ∀ n ∈ z1_1, (Lit.int .i64 n).wf = true) (y1_1 : len1_1 * 8 ≤ 140737488351232) :
  Calls Try.prog 11 #[.agg #[.slice a0_0 len0_0 cap0_0, .slice a0_1 len0_1 cap0_1], .agg #[.slice a1_0 len1_0 cap1_0, .slice a1_1 len1_1 cap1_1]] w fun e w' => e = .returned (.bool true) ∧ Below w.heap.size w w' := by
 obtain ⟨l0_0, rfl, hr0_0, hm0_0, hw0_0, hc0_0⟩ := ReadsInt.ofRowC w0_0
 obtain ⟨l0_1, rfl, hr0_1, hm0_1, hw0_1, hc0_1⟩ := ReadsInt.ofRowC w0_1
 obtain ⟨l1_0, rfl, hr1_0, hm1_0, hw1_0, hc1_0⟩ := ReadsInt.ofRowC w1_0
 obtain ⟨l1_1, rfl, hr1_1, hm1_1, hw1_1, hc1_1⟩ := ReadsInt.ofRowC w1_1
 rcases P l0_0 l0_1 l1_0 l1_1 y0_0 y0_1 y1_0 y1_1 with ⟨s1, z1, h1⟩ | ⟨s1, s2, z1, h1, z2, h2⟩ | ⟨k, s1, s2, m1, m2, m3, W0, W1, X0, X1, Y0, Y1, V0, V1, b, z1, h1, z2, h2, ta, tb, js, ji, ea, eb, ew, ma, mb, h3, mw, hw, h4⟩
 ·exact jg_big0 _ _ l0_0 _ _ l0_1 _ _ l1_0 _ _ l1_1 w (Kd.C_of_reads (d := (0 : Int)) (h1 := fun _ => rfl) hr0_0) hc0_0 (Kd.C_of_reads (d := (0 : Int)) (h1 := fun _ => rfl) hr0_1) hc0_1 (Kd.C_of_reads (d := (0 : Int)) (h1 := fun _ => rfl) hr1_0) hc1_0 (Kd.C_of_reads (d := (0 : Int)) (h1 := fun _ => rfl) hr1_1) hc1_1 s1 z1 h1
 ·exact jg_big1 _ _ l0_0 _ _ l0_1 _ _ l1_0 _ _ l1_1 w (Kd.C_of_reads (d := (0 : Int)) (h1 := fun _ => rfl) hr0_0) hc0_0 (Kd.C_of_reads (d := (0 : Int)) (h1 := fun _ => rfl) hr0_1) hc0_1 (Kd.C_of_reads (d := (0 : Int)) (h1 := fun _ => rfl) hr1_0) hc1_0 (Kd.C_of_reads (d := (0 : Int)) (h1 := fun _ => rfl) hr1_1) hc1_1 s1 s2 z1 h1 z2 h2
 ·exact jg_full _ _ l0_0 _ _ l0_1 _ _ l1_0 _ _ l1_1 w (Kd.C_of_reads (d := (0 : Int)) (h1 := fun _ => rfl) hr0_0) hc0_0 (Kd.C_of_reads (d := (0 : Int)) (h1 := fun _ => rfl) hr0_1) hc0_1 (Kd.C_of_reads (d := (0 : Int)) (h1 := fun _ => rfl) hr1_0) hc1_0 (Kd.C_of_reads (d := (0 : Int)) (h1 := fun _ => rfl) hr1_1) hc1_1 k s1 s2 m1 m2 m3 W0 W1 X0 X1 Y0 Y1 V0 V1 b z1 h1 z2 h2 ta tb js ji ea eb ew ma mb h3 mw hw h4
end Go.Proofs.Ytcnfhfjhpicpkaa.P
