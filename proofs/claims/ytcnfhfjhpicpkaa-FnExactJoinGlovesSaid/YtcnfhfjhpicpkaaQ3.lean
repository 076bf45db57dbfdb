-- written for this claim by the session's own program (wip/xprint)
import Derived.Test.YtcnfhfjhpicpkaaQ2
namespace Go.Proofs.Ytcnfhfjhpicpkaa.P
open Go.RowKit Go.Proofs.YtcnfhfjhpicpkaaW.PrintWords Go.Proofs.YtcnfhfjhpicpkaaW.PrintLast Go.Proofs.YtcnfhfjhpicpkaaW.PrintMore
attribute [local go_sem] max2_int min2_int max_two min_two max_three min_three max_four min_four   -- for this text's walks alone
set_option linter.unusedVariables false
set_option linter.unusedSimpArgs false

/-! ### impl_JoinGloves: function 37 -/
/-! #### a cell that a closure counts in -/
structure SameBut (B bi : Nat) (W W' : World) : Prop where
  os : W'.os = W.os
  tape : W'.tape = W.tape
  output : W'.output = W.output
  size : B ≤ W'.heap.size
  block : ∀ b, b < B → b ≠ bi → W'.heap[b]? = W.heap[b]?
structure EL (w0 : World) (bi : Nat) (St : World → Prop) (w : World) (st : Int) : Prop where
  same : SameBut w0.heap.size bi w0 w
  size : w.heap.size = w0.heap.size
  cell : w.cell? ⟨bi, 0, none⟩ = some (.int .i64 st)
  fz : w.frozen? ⟨bi, 0, none⟩ = false
  st : St w
theorem block_of_cellb {w : World} {b j : Nat} {v : Value} (h : w.cell? ⟨b, j, none⟩ = some v) : b < w.heap.size := by
  by_cases hlt : b < w.heap.size
  · exact hlt
  · have hn : w.heap[b]? = none := by simp; omega
    simp [World.cell?, hn] at h
theorem EL.refl {w : World} {bi : Nat} {St : World → Prop} {s0 : Int} (hSt : St w) (hc : w.cell? ⟨bi, 0, none⟩ = some (.int .i64 s0)) (hf : w.frozen? ⟨bi, 0, none⟩ = false) : EL w bi St w s0 :=
  ⟨⟨rfl, rfl, rfl, Nat.le_refl _, fun _ _ _ => rfl⟩, rfl, hc, hf, hSt⟩
section
variable {w0 w wr wn w2 : World} {bi : Nat} {St : World → Prop} {st ts : Int} {v : Value} {nd : Nat}
theorem frozen_of_block {w w' : World} {b j : Nat} (h : w'.heap[b]? = w.heap[b]?) : w'.frozen? ⟨b, j, none⟩ = w.frozen? ⟨b, j, none⟩ := by simp [World.frozen?, h]
theorem EL.cellAt (h : EL w0 bi St w st) (hbi : bi < w0.heap.size) (hB : Below w.heap.size w wr) : wr.cell? ⟨bi, 0, none⟩ = some (.int .i64 st) :=
  (World.cell?_of_block (hB.block bi (by rw [h.size]; exact hbi))).trans h.cell
theorem EL.frozenAt (h : EL w0 bi St w st) (hbi : bi < w0.heap.size) (hB : Below w.heap.size w wr) : wr.frozen? ⟨bi, 0, none⟩ = false :=
  (frozen_of_block (hB.block bi (by rw [h.size]; exact hbi))).trans h.fz
theorem EL.stAt (h : EL w0 bi St w st) (hStm : ∀ W W', St W → SameBut w0.heap.size bi W W' → St W') (hB : Below w.heap.size w wr) : St wr :=
  hStm w wr h.st ⟨hB.os, hB.tape, hB.output, by rw [← h.size]; exact hB.size, fun b hb _ => hB.block b (by rw [h.size]; exact hb)⟩
theorem EL.next (h : EL w0 bi St w st) (hbi : bi < w0.heap.size) (hStm : ∀ W W', St W → SameBut w0.heap.size bi W W' → St W') (hw : w2 = w.setCell ⟨bi, 0, none⟩ (.int .i64 ts)) : EL w0 bi St w2 ts := by
  subst hw
  have hb : ∀ b, b ≠ bi → (w.setCell ⟨bi, 0, none⟩ (.int .i64 ts)).heap[b]? = w.heap[b]? := fun b hb => heap_setCell_other _ _ _ _ hb
  have hz : (w.setCell ⟨bi, 0, none⟩ (.int .i64 ts)).heap.size = w0.heap.size := by rw [World.size_setCell]; exact h.size
  refine ⟨⟨h.same.os, h.same.tape, h.same.output, Nat.le_of_eq hz.symm, fun b h1 h2 => (hb b h2).trans (h.same.block b h1 h2)⟩, hz, by first | exact World.cell?_setCell_same _ h.cell | exact World.cell?_setCell_same _ _ h.cell | exact World.cell?_setCell_same _ _ _ h.cell, ?_, hStm w _ h.st ⟨rfl, rfl, rfl, Nat.le_of_eq hz.symm, fun b _ h2 => hb b h2⟩⟩
  have := h.fz
  simp only [World.frozen?, World.setCell, Array.getElem?_modify] at this ⊢
  rw [if_pos trivial]
  cases hx : w.heap[bi]? with
  | none => simp
  | some o =>
    rw [hx] at this
    cases o <;> simp_all
theorem size_of_set (hw : w2 = w.setCell ⟨bi, 0, none⟩ v) : w2.heap.size = w.heap.size := by rw [hw, World.size_setCell]
theorem R_bi {α : Type} {d : Kd α} {e base base' : Nat} {ok : Nat → Prop} {u : Value} {xs : List α} (h : d.R e wr base ok u xs) (hb : bi < base) (hz : base' = base) (hw : wn = (wr.setCell ⟨bi, 0, none⟩ v).drewN nd) : d.R e wn base' ok u xs := by
  subst hz
  subst hw
  have h1 := Kd.R_far (p := ⟨bi, 0, none⟩) (Kd.R_bound h) (fun k hk => by have := hk.2.1; show k ≠ bi; omega) v
  exact Kd.R_drewN (Kd.R_mono h1 (fun _ hk => hk.1)) nd
theorem blk_bi {g : Nat} {o : Obj} (h : wr.heap[g]? = some o) (hg : g ≠ bi) (hw : wn = (wr.setCell ⟨bi, 0, none⟩ v).drewN nd) : wn.heap[g]? = some o := by
  subst hw
  exact (heap_setCell_other wr ⟨bi, 0, none⟩ g v hg).trans h
theorem below_bi (h : Below w.heap.size w wr) (hb : bi < w.heap.size) (hw2 : w2 = w.setCell ⟨bi, 0, none⟩ v) (hw : wn = (wr.setCell ⟨bi, 0, none⟩ v).drewN nd) : Below w2.heap.size w2 wn := by
  subst hw2
  subst hw
  refine pw_below_drewN (w := w.setCell ⟨bi, 0, none⟩ v) (W := wr.setCell ⟨bi, 0, none⟩ v) ⟨h.os, h.tape, h.output, by rw [World.size_setCell, World.size_setCell]; exact h.size, fun k hk => ?_⟩ nd
  rw [World.size_setCell] at hk
  by_cases he : k = bi
  · subst he
    simp only [World.setCell, Array.getElem?_modify, if_pos rfl]
    rw [h.block k hk]
  · rw [heap_setCell_other _ _ _ _ he, heap_setCell_other _ _ _ _ he]
    exact h.block k hk
end
theorem below_same {w W W' : World} {B' bi : Nat} (h : Below w.heap.size w W) (hs : SameBut B' bi W W') (hB : w.heap.size ≤ B') (hbi : w.heap.size ≤ bi) : Below w.heap.size w W' :=
  ⟨hs.os.trans h.os, hs.tape.trans h.tape, hs.output.trans h.output, Nat.le_trans hB hs.size, fun k hk => (hs.block k (by omega) (by omega)).trans (h.block k hk)⟩
theorem R_farb {α : Type} {d : Kd α} {e base g j : Nat} {ok : Nat → Prop} {u v : Value} {xs : List α} {wr : World} (h : d.R e wr base ok u xs) (hb : g < base) : d.R e (wr.setCell ⟨g, j, none⟩ v) base ok u xs :=
  Kd.R_mono (Kd.R_far (p := ⟨g, j, none⟩) (Kd.R_bound h) (fun k hk => by have := hk.2.1; show k ≠ g; omega) v) (fun _ hk => hk.1)
theorem rest_nil {w4 : World} {g4 : Nat} (h4 : w4.heap[g4]? = some (.cells #[.slice none 0 0, .slice none 0 0] 28 (0, 0))) : w4.cell? ⟨g4, 0, none⟩ = some (.slice none 0 0) ∧ w4.cell? ⟨g4, 1, none⟩ = some (.slice none 0 0) ∧ w4.frozen? ⟨g4, 0, none⟩ = false ∧ w4.frozen? ⟨g4, 1, none⟩ = false :=
  ⟨(blk_cell h4 0).trans rfl, (blk_cell h4 1).trans rfl, blk_frozen h4 0, blk_frozen h4 1⟩
/-- The cell that was just laid and set. -/
theorem set_cell {w6 : World} {g6 : Nat} {v : Value} (h : w6.heap[g6]? = some (.cells #[.int .i64 0] 3 (0, 0))) : (w6.setCell ⟨g6, 0, none⟩ v).cell? ⟨g6, 0, none⟩ = some v ∧ (w6.setCell ⟨g6, 0, none⟩ v).frozen? ⟨g6, 0, none⟩ = false := by
  have h2 := heap_setCell_same w6 g6 0 _ _ v h
  exact ⟨(blk_cell h2 0).trans rfl, blk_frozen h2 0⟩
def madeJ.l0 (cl : Int → Int → Int → Option (Int × Int × Int)) : Nat → Int → List Int → Int → Int → List Int → List Int → List Int → List Int → Option (List Int × List Int × Bool)
 | 0, _, _, _, _, _, _, _, _ => none
 | k + 1, s, x17, x18, x19, x156000, x156001, x159000, x159001 => if x19 < x18 then (if 0 ≤ x19 then (if x19 < (x17.length : Int) then (if x19 < (x156001.length : Int) then ((cl s (rd x17 x19) (rd x156001 x19)).bind fun bt161 => ((some (([bt161.1] : List Int) : List Int)).bind fun y163 => (if x159000.length + y163.length < 17592186044416 then ((some (([bt161.2.1] : List Int) : List Int)).bind fun y169 => (if x159001.length + y169.length < 17592186044416 then (madeJ.l0 cl k bt161.2.2 x17 x18 (wrap64 (x19 + 1)) x156000 x156001 (x159000 ++ y163) (x159001 ++ y169)) else (none))) else (none)))) else (none)) else (none)) else (none)) else ((impl_AreGloves.f k x159000 x159001).bind fun t175 => (if t175 = true then (some (x159000, x159001, true)) else (some (([] : List Int), ([] : List Int), false))))
def madeJ.f (cl : Int → Int → Int → Option (Int × Int × Int)) (k : Nat) (s0 : Int) (l0_0 : List Int) (l0_1 : List Int)  : Option (List Int × List Int × Bool) := (impl_AreGloves.f k l0_0 l0_1).bind fun t157 => (if t157 = true then (madeJ.l0 cl k s0 l0_0 (l0_0.length : Int) 0 l0_0 l0_1 ([] : List Int) ([] : List Int)) else (some (([] : List Int), ([] : List Int), false)))
theorem madeJ.mono_l (cl : Int → Int → Int → Option (Int × Int × Int)) : ∀ k, (∀ s y0 y1 y2 y3 y4 y5 y6, LeO (madeJ.l0 cl k s y0 y1 y2 y3 y4 y5 y6) (madeJ.l0 cl (k + 1) s y0 y1 y2 y3 y4 y5 y6))
 | 0 => fun _ _ _ _ _ _ _ _ r h => by simp [madeJ.l0] at h
 | k + 1 => by
  have ih0 := madeJ.mono_l cl k
  intro s y0 y1 y2 y3 y4 y5 y6
  unfold madeJ.l0
  repeat' first
   | (with_reducible exact ih0 _ _ _ _ _ _ _ _)
   | (with_reducible exact impl_AreGloves.mono _ _ _)
   | (with_reducible exact LeO.refl _)
   | (with_reducible exact LeO.none _)
   | (with_reducible refine LeO.ite ?_ ?_)
   | (with_reducible refine LeO.bind ?_ (fun _ => ?_))
   | exact ih0 _ _ _ _ _ _ _ _
   | exact impl_AreGloves.mono _ _ _
   | exact LeO.none _
   | refine LeO.ite ?_ ?_
   | refine LeO.bind ?_ (fun _ => ?_)
theorem madeJ.mono (cl : Int → Int → Int → Option (Int × Int × Int)) : ∀ s a0 a1 k, LeO (madeJ.f cl k s a0 a1) (madeJ.f cl (k + 1) s a0 a1) := by
  intro s a0 a1 k
  have ih0 := madeJ.mono_l cl k
  unfold madeJ.f
  repeat' first
   | (with_reducible exact ih0 _ _ _ _ _ _ _ _)
   | (with_reducible exact impl_AreGloves.mono _ _ _)
   | (with_reducible exact LeO.refl _)
   | (with_reducible exact LeO.none _)
   | (with_reducible refine LeO.ite ?_ ?_)
   | (with_reducible refine LeO.bind ?_ (fun _ => ?_))
   | exact ih0 _ _ _ _ _ _ _ _
   | exact impl_AreGloves.mono _ _ _
   | exact LeO.none _
   | refine LeO.ite ?_ ?_
   | refine LeO.bind ?_ (fun _ => ?_)
def madeJ.T8 : Bool × List (List Nat × List Nat) := (true, [([], []), ([0], [0]), ([], []), ([2], [2]), ([1, 3], [1, 3]), ([], []), ([5], [5]), ([], []), ([7], [7]), ([6, 8, 4], [6, 8]), ([0, 1, 2, 3, 4, 5, 6], []), ([10, 4, 9, 0, 1, 2, 3, 4, 5, 6], [4, 10]), ([0, 1, 2, 3, 4, 5, 6, 7, 8, 9, 10, 11], []), ([12, 9, 11, 0, 1, 2, 3, 4, 5, 6, 7, 8, 9, 10, 11], [9, 12])])
def madeJ.B8 : List Nat := [0, 1, 0, 4, 15, 0, 32, 0, 128, 511, 127, 2047, 4095, 8191]
theorem madeJ.tab8 : rtab .any (opsOf Try.f63 8) = madeJ.T8 := by kernel_rfl
theorem madeJ.bits8 : waitsOk madeJ.T8.2 madeJ.B8 = true := by kernel_rfl
set_option maxHeartbeats 8000000 in
set_option maxRecDepth 100000 in
theorem madeJ.calls (k : Nat) (A0_0 : Option Addr) (c0_0 : Nat) (l0_0 : List Int) (A0_1 : Option Addr) (c0_1 : Nat) (l0_1 : List Int)  (r1 : List Int) (r2 : List Int) (r3 : Bool) (w : World) (cl : Int → Int → Int → Option (Int × Int × Int)) (s0 : Int) (bi bb : Nat) (St : World → Prop) (hSt0 : St w) (hStm : ∀ W W', St W → SameBut w.heap.size bi W W' → St W') (hC0 : ∀ W, St W → Kd.C (Kd.int .i64) W A0_0 l0_0.length l0_0) (hc0_0 : l0_0.length ≤ c0_0) (hC1 : ∀ W, St W → Kd.C (Kd.int .i64) W A0_1 l0_1.length l0_1) (hc0_1 : l0_1.length ≤ c0_1)
    (hcell : w.cell? ⟨bi, 0, none⟩ = some (.int .i64 s0)) (HCL : ∀ (s x y a b s' : Int) (W : World), cl s x y = some (a, b, s') → W.cell? ⟨bi, 0, none⟩ = some (.int .i64 s) → W.frozen? ⟨bi, 0, none⟩ = false → St W → Calls Try.prog 75 #[.int .i64 x, .int .i64 y, .pointer (some ⟨bi, 0, none⟩), .pointer (some ⟨bb, 0, none⟩)] W fun e W' => e = .returned (.tuple #[.int .i64 a, .int .i64 b]) ∧ ∃ nd, W' = (W.setCell ⟨bi, 0, none⟩ (.int .i64 s')).drewN nd) (hfz : w.frozen? ⟨bi, 0, none⟩ = false)
    (h : madeJ.f cl k s0 l0_0 l0_1 = some (r1, r2, r3)) :
  Calls Try.prog 63 #[.agg #[.slice A0_0 l0_0.length c0_0, .slice A0_1 l0_1.length c0_1], .func (.func 75) #[] #[.pointer (some ⟨bi, 0, none⟩), .pointer (some ⟨bb, 0, none⟩)]] w fun e w' => ∃ wq : World, (∃ st, EL w bi St wq st) ∧ ∃ v0_ v1_ : Value, e = .returned (.tuple #[.agg #[v0_, v1_], .bool r3]) ∧ Kd.R (Kd.int .i64) 3 w' wq.heap.size (fun k_ => some k_ ≠ (v1_ : Value).ownBlock) v0_ r1 ∧ Kd.R (Kd.int .i64) 3 w' wq.heap.size (fun k_ => some k_ ≠ (v0_ : Value).ownBlock) v1_ r2 ∧ Below wq.heap.size wq w' := by
 have hu28 := Try.underlying28
 have HEL := Aside0.mk (EL.refl hSt0 hcell hfz)
 have hbi := block_of_cellb hcell
 have HR0_0 := Aside0.mk (hC0 w hSt0)
 have HC0_0 := Aside0.mk hc0_0
 clear hc0_0
 have HR0_1 := Aside0.mk (hC1 w hSt0)
 have HC0_1 := Aside0.mk hc0_1
 clear hc0_1
 have HB := Aside0.mk (Below.refl w.heap.size w)
 have H : ((impl_AreGloves.f k l0_0 l0_1).bind fun t157 => (if t157 = true then (madeJ.l0 cl k s0 l0_0 (l0_0.length : Int) 0 l0_0 l0_1 ([] : List Int) ([] : List Int)) else (some (([] : List Int), ([] : List Int), false)))) = some (r1, r2, r3) := h
 clear h
 replace H := Option.bind_eq_some_iff.mp H
 obtain ⟨t157, A30, H⟩ := H
 replace H : (if t157 = true then (madeJ.l0 cl k s0 l0_0 (l0_0.length : Int) 0 l0_0 l0_1 ([] : List Int) ([] : List Int)) else (some (([] : List Int), ([] : List Int), false))) = some (r1, r2, r3) := H
 have A3 := Aside0.mk A30
 clear A30
 by_cases c4 : t157 = true
 ·subst c4
  have H1 : (madeJ.l0 cl k s0 l0_0 (l0_0.length : Int) 0 l0_0 l0_1 ([] : List Int) ([] : List Int)) = some (r1, r2, r3) := by rw [if_pos rfl] at H; exact H
  clear H
  have H := H1
  clear H1
  have H' := Aside0.mk H
  clear H
  go_enter Try.func63, Try.ntmps63
  go_wp2_with (first | ((with_reducible refine gate_dst (N := 2) rfl ?_); refine box_event ?hg (N := 2) ?hd (cs := #[.slice A0_0 l0_0.length c0_0, .slice A0_1 l0_1.length c0_1]) (t := 28) ?hr ?_; (case hd => rfl); (case hg => rfl); (case hr => first | (go_simp; done) | (go_simp; rfl)); intro gb155 hg w5 hbox hb; have n0_ := Aside0.mk (below_step (by repeat (first | (with_reducible first | exact HB.1 | apply below_alloc | apply pw_below_drewN | apply below_drew1) | exact HB.1)) hb); have n1_ := Aside0.mk (hbox); have n2_ := Aside0.mk ((by rw [hg]; exact (below_size (by repeat (first | (with_reducible first | exact HB.1 | apply below_alloc | apply pw_below_drewN | apply below_drew1) | exact HB.1))) : w.heap.size ≤ gb155)); have n3_ := Aside0.mk ((by rw [hg]; exact (below_size (by repeat (first | (with_reducible first | exact HB.1 | apply below_alloc | apply pw_below_drewN | apply below_drew1) | exact HB.1))) : w.heap.size ≤ gb155)); clear HB; have HB := n0_; have BK155 := n1_; have GW155 := n2_; have GE155 := n3_; clear n0_ n1_ n2_ n3_; clear hb hbox hg) | ((with_reducible refine gate_dst (N := 4) rfl ?_); refine box_event ?hg (N := 4) ?hd (cs := #[.slice none 0 0, .slice none 0 0]) (t := 28) ?hr ?_; (case hd => rfl); (case hg => rfl); (case hr => first | (go_simp; done) | (go_simp; rfl)); intro gb156 hg w6 hbox hb; have n0_ := Aside0.mk (blk_below (g := gb155) (o := .cells #[.slice A0_0 l0_0.length c0_0, .slice A0_1 l0_1.length c0_1] 28 (0, 0)) (by (with_reducible repeat (first | refine blk_drewN ?_ _ | refine blk_drew ?_ | refine blk_alloc ?_ _)); exact BK155.1) hb); have n1_ := Aside0.mk (below_step (by repeat (first | (with_reducible first | exact HB.1 | apply below_alloc | apply pw_below_drewN | apply below_drew1 | refine below_set ?_ GE155.1) | exact HB.1)) hb); have n2_ := Aside0.mk (hbox); have n3_ := Aside0.mk ((by rw [hg]; exact (below_size (by repeat (first | (with_reducible first | exact HB.1 | apply below_alloc | apply pw_below_drewN | apply below_drew1 | refine below_set ?_ GE155.1) | exact HB.1))) : w.heap.size ≤ gb156)); have n4_ := Aside0.mk ((by rw [hg]; exact (below_size (by repeat (first | (with_reducible first | exact HB.1 | apply below_alloc | apply pw_below_drewN | apply below_drew1 | refine below_set ?_ GE155.1) | exact HB.1))) : w.heap.size ≤ gb156)); have n5_ := Aside0.mk ((by rw [hg]; exact Nat.ne_of_lt (blk_lt (g := gb155) (o := .cells #[.slice A0_0 l0_0.length c0_0, .slice A0_1 l0_1.length c0_1] 28 (0, 0)) (by (with_reducible repeat (first | refine blk_drewN ?_ _ | refine blk_drew ?_ | refine blk_alloc ?_ _)); exact BK155.1)) : gb155 ≠ gb156)); have n6_ := Aside0.mk ((by rw [hg]; exact Nat.ne_of_gt (blk_lt (g := gb155) (o := .cells #[.slice A0_0 l0_0.length c0_0, .slice A0_1 l0_1.length c0_1] 28 (0, 0)) (by (with_reducible repeat (first | refine blk_drewN ?_ _ | refine blk_drew ?_ | refine blk_alloc ?_ _)); exact BK155.1)) : gb156 ≠ gb155)); clear BK155; clear HB; have BK155 := n0_; have HB := n1_; have BK156 := n2_; have GW156 := n3_; have GE156 := n4_; have NB155_156 := n5_; have NB156_155 := n6_; clear n0_ n1_ n2_ n3_ n4_ n5_ n6_; clear hb hbox hg; have hnb7 := NB155_156.1; have hnc7 := NB156_155.1; have hcz8_0 : w6.cell? ⟨gb155, 0, none⟩ = some (.slice A0_0 l0_0.length c0_0) := (blk_cell BK155.1 0).trans rfl; have hcz8_1 : w6.cell? ⟨gb155, 1, none⟩ = some (.slice A0_1 l0_1.length c0_1) := (blk_cell BK155.1 1).trans rfl; have hfz8_0 := blk_frozen BK155.1 0; have hfz8_1 := blk_frozen BK155.1 1) | ((with_reducible refine gate_callee (f := 48) rfl ?_); refine goesL_ (some 12) rfl rfl Try.func48 (by kernel_rfl) rfl #[.agg #[.slice A0_0 l0_0.length c0_0, .slice A0_1 l0_1.length c0_1]] rfl (by (try simp only [List.map_toArray, List.map_cons, List.map_nil]); first | done | rfl | (simp only [List.length_drop, List.length_take]; rfl)) ?_; (with_reducible refine (impl_AreGloves.calls k _ _ l0_0 _ _ l0_1 true _ ?side1 ?side2 ?side3 ?side4 A3.1).mono ?_); (case side1 => repeat (first | exact (Kd.C_below HR0_0.1 HB.1) | (with_reducible refine Kd.C_alloc ?_ _) | (with_reducible refine Kd.C_drewN ?_ _) | (with_reducible refine Kd.C_drew ?_))); (case side2 => exact HC0_0.1); (case side3 => repeat (first | exact (Kd.C_below HR0_1.1 HB.1) | (with_reducible refine Kd.C_alloc ?_ _) | (with_reducible refine Kd.C_drewN ?_ _) | (with_reducible refine Kd.C_drew ?_))); (case side4 => exact HC0_1.1); rintro e w9 ⟨rfl, hb⟩; refine ⟨_, rfl, ?_⟩; have n0_ := Aside0.mk (blk_below (g := gb155) (o := .cells #[.slice A0_0 l0_0.length c0_0, .slice A0_1 l0_1.length c0_1] 28 (0, 0)) (by (with_reducible repeat (first | refine blk_drewN ?_ _ | refine blk_drew ?_ | refine blk_alloc ?_ _)); exact BK155.1) hb); have n1_ := Aside0.mk (blk_below (g := gb156) (o := .cells #[.slice none 0 0, .slice none 0 0] 28 (0, 0)) (by (with_reducible repeat (first | refine blk_drewN ?_ _ | refine blk_drew ?_ | refine blk_alloc ?_ _)); exact BK156.1) hb); have n2_ := Aside0.mk (below_step (by repeat (first | (with_reducible first | exact HB.1 | apply below_alloc | apply pw_below_drewN | apply below_drew1 | refine below_set ?_ GE155.1 | refine below_set ?_ GE156.1) | exact HB.1)) hb); clear BK155; clear BK156; clear HB; have BK155 := n0_; have BK156 := n1_; have HB := n2_; clear n0_ n1_ n2_; (try clear hb); (try clear hb2); (try clear hk); (try clear hi)) | ((with_reducible refine gate_dst (N := 6) rfl ?_); refine box_event ?hg (N := 6) ?hd (cs := #[.slice none 0 0, .slice none 0 0]) (t := 28) ?hr ?_; (case hd => rfl); (case hg => rfl); (case hr => first | (go_simp; done) | (go_simp; rfl)); intro gb158 hg w10 hbox hb; have n0_ := Aside0.mk (blk_below (g := gb155) (o := .cells #[.slice A0_0 l0_0.length c0_0, .slice A0_1 l0_1.length c0_1] 28 (0, 0)) (by (with_reducible repeat (first | refine blk_drewN ?_ _ | refine blk_drew ?_ | refine blk_alloc ?_ _)); exact BK155.1) hb); have n1_ := Aside0.mk (blk_below (g := gb156) (o := .cells #[.slice none 0 0, .slice none 0 0] 28 (0, 0)) (by (with_reducible repeat (first | refine blk_drewN ?_ _ | refine blk_drew ?_ | refine blk_alloc ?_ _)); exact BK156.1) hb); have n2_ := Aside0.mk (below_step (by repeat (first | (with_reducible first | exact HB.1 | apply below_alloc | apply pw_below_drewN | apply below_drew1 | refine below_set ?_ GE155.1 | refine below_set ?_ GE156.1) | exact HB.1)) hb); have n3_ := Aside0.mk (hbox); have n4_ := Aside0.mk ((by rw [hg]; exact (below_size (by repeat (first | (with_reducible first | exact HB.1 | apply below_alloc | apply pw_below_drewN | apply below_drew1 | refine below_set ?_ GE155.1 | refine below_set ?_ GE156.1) | exact HB.1))) : w.heap.size ≤ gb158)); have n5_ := Aside0.mk ((by rw [hg]; exact (below_size (by repeat (first | (with_reducible first | exact HB.1 | apply below_alloc | apply pw_below_drewN | apply below_drew1 | refine below_set ?_ GE155.1 | refine below_set ?_ GE156.1) | exact HB.1))) : w.heap.size ≤ gb158)); have n6_ := Aside0.mk ((by rw [hg]; exact Nat.ne_of_lt (blk_lt (g := gb155) (o := .cells #[.slice A0_0 l0_0.length c0_0, .slice A0_1 l0_1.length c0_1] 28 (0, 0)) (by (with_reducible repeat (first | refine blk_drewN ?_ _ | refine blk_drew ?_ | refine blk_alloc ?_ _)); exact BK155.1)) : gb155 ≠ gb158)); have n7_ := Aside0.mk ((by rw [hg]; exact Nat.ne_of_gt (blk_lt (g := gb155) (o := .cells #[.slice A0_0 l0_0.length c0_0, .slice A0_1 l0_1.length c0_1] 28 (0, 0)) (by (with_reducible repeat (first | refine blk_drewN ?_ _ | refine blk_drew ?_ | refine blk_alloc ?_ _)); exact BK155.1)) : gb158 ≠ gb155)); have n8_ := Aside0.mk ((by rw [hg]; exact Nat.ne_of_lt (blk_lt (g := gb156) (o := .cells #[.slice none 0 0, .slice none 0 0] 28 (0, 0)) (by (with_reducible repeat (first | refine blk_drewN ?_ _ | refine blk_drew ?_ | refine blk_alloc ?_ _)); exact BK156.1)) : gb156 ≠ gb158)); have n9_ := Aside0.mk ((by rw [hg]; exact Nat.ne_of_gt (blk_lt (g := gb156) (o := .cells #[.slice none 0 0, .slice none 0 0] 28 (0, 0)) (by (with_reducible repeat (first | refine blk_drewN ?_ _ | refine blk_drew ?_ | refine blk_alloc ?_ _)); exact BK156.1)) : gb158 ≠ gb156)); clear BK155; clear BK156; clear HB; have BK155 := n0_; have BK156 := n1_; have HB := n2_; have BK158 := n3_; have GW158 := n4_; have GE158 := n5_; have NB155_158 := n6_; have NB158_155 := n7_; have NB156_158 := n8_; have NB158_156 := n9_; clear n0_ n1_ n2_ n3_ n4_ n5_ n6_ n7_ n8_ n9_; clear hb hbox hg; have hnb11 := NB158_155.1; have hnc11 := NB155_158.1; have hnb12 := NB158_156.1; have hnc12 := NB156_158.1; have hcz13_0 : w10.cell? ⟨gb158, 0, none⟩ = some (.slice none 0 0) := (blk_cell BK158.1 0).trans rfl; have hcz13_1 : w10.cell? ⟨gb158, 1, none⟩ = some (.slice none 0 0) := (blk_cell BK158.1 1).trans rfl; have hfz13_0 := blk_frozen BK158.1 0; have hfz13_1 := blk_frozen BK158.1 1; have hcz14_0 : w10.cell? ⟨gb155, 0, none⟩ = some (.slice A0_0 l0_0.length c0_0) := (blk_cell BK155.1 0).trans rfl; have hcz14_1 : w10.cell? ⟨gb155, 1, none⟩ = some (.slice A0_1 l0_1.length c0_1) := (blk_cell BK155.1 1).trans rfl; have hfz14_0 := blk_frozen BK155.1 0; have hfz14_1 := blk_frozen BK155.1 1))
  go_loopg [19] k (fun kq v19 w' => ∃ (wq : World) (st : Int) (x19_1 : Int) (x159000_1 : List Int) (x159001_1 : List Int) (u159000 : Value) (u159001 : Value), v19 = .int .i64 x19_1 ∧ Aside0 (madeJ.l0 cl kq st l0_0 (l0_0.length : Int) x19_1 l0_0 l0_1 x159000_1 x159001_1 = some (r1, r2, r3)) ∧ Aside0 (kq ≤ k) ∧ Aside0 (Kd.R (Kd.int .i64) 3 w' wq.heap.size (fun k_ => some k_ ≠ (u159001 : Value).ownBlock) u159000 x159000_1) ∧ Aside0 (Kd.R (Kd.int .i64) 3 w' wq.heap.size (fun k_ => some k_ ≠ (u159000 : Value).ownBlock) u159001 x159001_1) ∧ Aside0 (w'.heap[gb155]? = some (.cells #[(.slice A0_0 l0_0.length c0_0), (.slice A0_1 l0_1.length c0_1)] 28 (0, 0))) ∧ Aside0 (w'.heap[gb156]? = some (.cells #[(.slice none 0 0), (.slice none 0 0)] 28 (0, 0))) ∧ Aside0 (w'.heap[gb158]? = some (.cells #[u159000, u159001] 28 (0, 0))) ∧ Aside0 (EL w bi St wq st) ∧ Aside0 (Below wq.heap.size wq w'))
  case atStart => exact ⟨w, s0, (0), (([] : List Int)), (([] : List Int)), (.slice none 0 0), (.slice none 0 0), (by first | rfl | (simp; done) | (simp [*]; done) | (simp [Go.IntWalk.i64_left]; done)), H', ⟨Nat.le_refl _⟩, ⟨by first | exact Kd.R_nil _ _ _ _ _ | exact Kd.N_nil _ _ _ _ _ | exact Kd.V_nil _ _ _ _ _ | exact Kd.Q_nil _ _ _ _ _ | exact Kd.S_nil _ _ _ _ _⟩, ⟨by first | exact Kd.R_nil _ _ _ _ _ | exact Kd.N_nil _ _ _ _ _ | exact Kd.V_nil _ _ _ _ _ | exact Kd.Q_nil _ _ _ _ _ | exact Kd.S_nil _ _ _ _ _⟩, ⟨by (with_reducible repeat (first | refine blk_drewN ?_ _ | refine blk_drew ?_ | refine blk_alloc ?_ _)); refine blk_far ?_ NB155_158.1 _; (with_reducible repeat (first | refine blk_drewN ?_ _ | refine blk_drew ?_ | refine blk_alloc ?_ _)); refine blk_far ?_ NB155_158.1 _; (with_reducible repeat (first | refine blk_drewN ?_ _ | refine blk_drew ?_ | refine blk_alloc ?_ _)); exact BK155.1⟩, ⟨by (with_reducible repeat (first | refine blk_drewN ?_ _ | refine blk_drew ?_ | refine blk_alloc ?_ _)); refine blk_far ?_ NB156_158.1 _; (with_reducible repeat (first | refine blk_drewN ?_ _ | refine blk_drew ?_ | refine blk_alloc ?_ _)); refine blk_far ?_ NB156_158.1 _; (with_reducible repeat (first | refine blk_drewN ?_ _ | refine blk_drew ?_ | refine blk_alloc ?_ _)); exact BK156.1⟩, ⟨by (with_reducible repeat (first | refine blk_drewN ?_ _ | refine blk_drew ?_ | refine blk_alloc ?_ _)); refine blk_put (cs := #[.slice none 0 0, .slice none 0 0]) ?_ 1 _ rfl; (with_reducible repeat (first | refine blk_drewN ?_ _ | refine blk_drew ?_ | refine blk_alloc ?_ _)); refine blk_put (cs := #[.slice none 0 0, .slice none 0 0]) ?_ 0 _ rfl; (with_reducible repeat (first | refine blk_drewN ?_ _ | refine blk_drew ?_ | refine blk_alloc ?_ _)); exact BK158.1⟩, HEL, ⟨by repeat (first | (with_reducible first | exact HB.1 | apply below_alloc | apply pw_below_drewN | apply below_drew1 | refine below_set ?_ GE155.1 | refine below_set ?_ GE156.1 | refine below_set ?_ GE158.1) | exact HB.1)⟩⟩
  case round =>
   clear H'
   try clear c1
   try clear p2
   try clear c4
   try clear c7
   try clear c11
   try clear c12
   try clear hcz13_0
   try clear hcz13_1
   try clear hcz14_0
   try clear hcz14_1
   try clear hcz8_0
   try clear hcz8_1
   try clear hfz13_0
   try clear hfz13_1
   try clear hfz14_0
   try clear hfz14_1
   try clear hfz8_0
   try clear hfz8_1
   obtain ⟨wq, st, x19_1, x159000_1, x159001_1, u159000, u159001, rfl, HA, HK1, Q159_0, Q159_1, BK155, BK156, BK158, HEL2, HB⟩ := hrel
   clear HEL
   have HEL := HEL2
   clear HEL2
   clear HR0_0 HR0_1
   have HR0_0 := Aside0.mk (hC0 wq HEL.1.st)
   have HR0_1 := Aside0.mk (hC1 wq HEL.1.st)
   have hszq := HEL.1.size
   have GE155q : Aside0 (wq.heap.size ≤ gb155) := ⟨by rw [hszq]; exact GE155.1⟩
   clear GE155
   have GE155 := GE155q
   clear GE155q
   have GE156q : Aside0 (wq.heap.size ≤ gb156) := ⟨by rw [hszq]; exact GE156.1⟩
   clear GE156
   have GE156 := GE156q
   clear GE156q
   have GE158q : Aside0 (wq.heap.size ≤ gb158) := ⟨by rw [hszq]; exact GE158.1⟩
   clear GE158
   have GE158 := GE158q
   clear GE158q
   obtain ⟨w, hwq⟩ : ∃ x, x = wq := ⟨_, rfl⟩
   subst hwq
   clear hszq
   cases gk with
   | zero => exact absurd HA.1 (by simp [madeJ.l0])
   | succ k1 =>
    have H := HA.1
    clear HA
    simp only [madeJ.l0] at H
    by_cases c15 : x19_1 < (l0_0.length : Int)
    ·rw [if_pos c15] at H
     have c15b0 : decide (x19_1 < (l0_0.length : Int)) = true := decide_eq_true c15
     clear c15
     by_cases c16 : 0 ≤ x19_1
     ·rw [if_pos c16] at H
      have c16b0 : decide (0 ≤ x19_1) = true := decide_eq_true c16
      clear c16
      by_cases c17 : x19_1 < (l0_0.length : Int)
      ·rw [if_pos c17] at H
       have c17b0 : decide (x19_1 < (l0_0.length : Int)) = true := decide_eq_true c17
       clear c17
       by_cases c18 : x19_1 < (l0_1.length : Int)
       ·rw [if_pos c18] at H
        have c18b0 : decide (x19_1 < (l0_1.length : Int)) = true := decide_eq_true c18
        clear c18
        replace H := Option.bind_eq_some_iff.mp H
        obtain ⟨⟨t161, t162, ts⟩, A190, H⟩ := H
        replace H : ((some (([t161] : List Int) : List Int)).bind fun y163 => (if x159000_1.length + y163.length < 17592186044416 then ((some (([t162] : List Int) : List Int)).bind fun y169 => (if x159001_1.length + y169.length < 17592186044416 then (madeJ.l0 cl k1 ts l0_0 (l0_0.length : Int) (wrap64 (x19_1 + 1)) l0_0 l0_1 (x159000_1 ++ y163) (x159001_1 ++ y169)) else (none))) else (none))) = some (r1, r2, r3) := H
        have A19 := Aside0.mk A190
        clear A190
        obtain ⟨y163, hy163⟩ : ∃ y_ : List Int, y_ = (([t161] : List Int)) := ⟨_, rfl⟩
        replace H : (if x159000_1.length + y163.length < 17592186044416 then ((some (([t162] : List Int) : List Int)).bind fun y169 => (if x159001_1.length + y169.length < 17592186044416 then (madeJ.l0 cl k1 ts l0_0 (l0_0.length : Int) (wrap64 (x19_1 + 1)) l0_0 l0_1 (x159000_1 ++ y163) (x159001_1 ++ y169)) else (none))) else (none)) = some (r1, r2, r3) := by first | (rw [hy163]; with_reducible exact H) | (have H2_ := (Option.bind_some _ _).symm.trans H; rw [hy163]; with_reducible exact H2_) | (have H2_ := (Option.bind_some _ _).symm.trans H; with_reducible exact H2_) | with_reducible exact H | (rw [hy163]; exact H) | exact H
        have Ny163 := Aside0.mk hy163
        clear hy163
        by_cases c20 : x159000_1.length + y163.length < 17592186044416
        ·rw [if_pos c20] at H
         have LMc20 := Aside0.mk c20
         clear c20
         obtain ⟨y166, hy166⟩ : ∃ y_ : List Int, y_ = (x159000_1 ++ y163) := ⟨_, rfl⟩
         replace H : ((some (([t162] : List Int) : List Int)).bind fun y169 => (if x159001_1.length + y169.length < 17592186044416 then (madeJ.l0 cl k1 ts l0_0 (l0_0.length : Int) (wrap64 (x19_1 + 1)) l0_0 l0_1 y166 (x159001_1 ++ y169)) else (none))) = some (r1, r2, r3) := by first | (rw [hy166]; with_reducible exact H) | (have H2_ := (Option.bind_some _ _).symm.trans H; rw [hy166]; with_reducible exact H2_) | (have H2_ := (Option.bind_some _ _).symm.trans H; with_reducible exact H2_) | with_reducible exact H | (rw [hy166]; exact H) | exact H
         have Ny166 := Aside0.mk hy166
         clear hy166
         obtain ⟨y169, hy169⟩ : ∃ y_ : List Int, y_ = (([t162] : List Int)) := ⟨_, rfl⟩
         replace H : (if x159001_1.length + y169.length < 17592186044416 then (madeJ.l0 cl k1 ts l0_0 (l0_0.length : Int) (wrap64 (x19_1 + 1)) l0_0 l0_1 y166 (x159001_1 ++ y169)) else (none)) = some (r1, r2, r3) := by first | (rw [hy169]; with_reducible exact H) | (have H2_ := (Option.bind_some _ _).symm.trans H; rw [hy169]; with_reducible exact H2_) | (have H2_ := (Option.bind_some _ _).symm.trans H; with_reducible exact H2_) | with_reducible exact H | (rw [hy169]; exact H) | exact H
         have Ny169 := Aside0.mk hy169
         clear hy169
         by_cases c21 : x159001_1.length + y169.length < 17592186044416
         ·rw [if_pos c21] at H
          have LMc21 := Aside0.mk c21
          clear c21
          obtain ⟨y172, hy172⟩ : ∃ y_ : List Int, y_ = (x159001_1 ++ y169) := ⟨_, rfl⟩
          replace H : (madeJ.l0 cl k1 ts l0_0 (l0_0.length : Int) (wrap64 (x19_1 + 1)) l0_0 l0_1 y166 y172) = some (r1, r2, r3) := by first | (rw [hy172]; with_reducible exact H) | (have H2_ := (Option.bind_some _ _).symm.trans H; rw [hy172]; with_reducible exact H2_) | (have H2_ := (Option.bind_some _ _).symm.trans H; with_reducible exact H2_) | with_reducible exact H | (rw [hy172]; exact H) | exact H
          have Ny172 := Aside0.mk hy172
          clear hy172
          have H' := Aside0.mk H
          clear H
          have p159 : 0 ≤ (x19_1 : Int) := of_decide_eq_true (by first | (with_reducible assumption) | assumption)
          have q159 : x19_1 < (l0_0.length : Int) := of_decide_eq_true (by first | (with_reducible assumption) | assumption)
          obtain ⟨ad159, e159, hx159_0⟩ := Kd.at_int HR0_0.1 x19_1 p159 q159
          cases e159
          replace hx159_0 := (HB.1.cell (World.block_lt_of_cell? w _ hx159_0)).trans hx159_0
          replace p159 := eq_true p159
          replace q159 := eq_true q159
          have hnb22 := NB155_156.1
          have hnc22 := NB156_155.1
          have hnb23 := NB155_158.1
          have hnc23 := NB158_155.1
          have hcz24_0 : wr.cell? ⟨gb155, 0, none⟩ = some (.slice (some ad159) l0_0.length c0_0) := (blk_cell BK155.1 0).trans rfl
          have hcz24_1 : wr.cell? ⟨gb155, 1, none⟩ = some (.slice A0_1 l0_1.length c0_1) := (blk_cell BK155.1 1).trans rfl
          have hfz24_0 := blk_frozen BK155.1 0
          have hfz24_1 := blk_frozen BK155.1 1
          have p160 : 0 ≤ (x19_1 : Int) := of_decide_eq_true (by first | (with_reducible assumption) | assumption)
          have q160 : x19_1 < (l0_1.length : Int) := of_decide_eq_true (by first | (with_reducible assumption) | assumption)
          obtain ⟨ad160, e160, hx160_0⟩ := Kd.at_int HR0_1.1 x19_1 p160 q160
          cases e160
          replace hx160_0 := (HB.1.cell (World.block_lt_of_cell? w _ hx160_0)).trans hx160_0
          replace p160 := eq_true p160
          replace q160 := eq_true q160
          try go_wp2_with (first | (go_at_call 75; refine (HCL st (rd l0_0 x19_1) (rd l0_1 x19_1) t161 t162 ts _ A19.1 (HEL.1.cellAt hbi HB.1) (HEL.1.frozenAt hbi HB.1) (HEL.1.stAt hStm HB.1)).mono ?_; rintro e wr ⟨rfl, nd, hwn⟩; have hbw : bi < w.heap.size := (HEL.1.size).symm ▸ hbi; obtain ⟨w, hw2⟩ : ∃ x, x = w.setCell ⟨bi, 0, none⟩ (.int .i64 ts) := ⟨_, rfl⟩; have hsz2 := size_of_set hw2; have n0_ := Aside0.mk (R_bi Q159_0.1 hbw hsz2 hwn); have n1_ := Aside0.mk (R_bi Q159_1.1 hbw hsz2 hwn); have n2_ := Aside0.mk (blk_bi BK155.1 (Nat.ne_of_gt (Nat.lt_of_lt_of_le hbw GE155.1)) hwn); have n3_ := Aside0.mk (blk_bi BK156.1 (Nat.ne_of_gt (Nat.lt_of_lt_of_le hbw GE156.1)) hwn); have n4_ := Aside0.mk (blk_bi BK158.1 (Nat.ne_of_gt (Nat.lt_of_lt_of_le hbw GE158.1)) hwn); have n5_ := Aside0.mk (below_bi HB.1 hbw hw2 hwn); have n6_ := Aside0.mk (HEL.1.next hbi hStm hw2); have n7_ := Aside0.mk (Nat.le_trans (Nat.le_of_eq hsz2) GE155.1); have n8_ := Aside0.mk (Nat.le_trans (Nat.le_of_eq hsz2) GE156.1); have n9_ := Aside0.mk (Nat.le_trans (Nat.le_of_eq hsz2) GE158.1); clear Q159_0 Q159_1 BK155 BK156 BK158 HB HEL GE155 GE156 GE158; have Q159_0 := n0_; have Q159_1 := n1_; have BK155 := n2_; have BK156 := n3_; have BK158 := n4_; have HB := n5_; have HEL := n6_; have GE155 := n7_; have GE156 := n8_; have GE158 := n9_; clear n0_ n1_ n2_ n3_ n4_ n5_ n6_ n7_ n8_ n9_ hsz2 hwn hw2; obtain ⟨Ao25, co25, eo25⟩ := Kd.R_slice Q159_0.1; subst eo25; obtain ⟨Ao26, co26, eo26⟩ := Kd.R_slice Q159_1.1; subst eo26))
          have n0_ := Aside0.mk (Kd.R_drew Q159_0.1)
          have n1_ := Aside0.mk (Kd.R_drew Q159_1.1)
          have n2_ := Aside0.mk (blk_drew BK155.1)
          have n3_ := Aside0.mk (blk_drew BK156.1)
          have n4_ := Aside0.mk (blk_drew BK158.1)
          have n5_ := Aside0.mk (below_drew1 HB.1)
          clear Q159_0
          clear Q159_1
          clear BK155
          clear BK156
          clear BK158
          clear HB
          have Q159_0 := n0_
          have Q159_1 := n1_
          have BK155 := n2_
          have BK156 := n3_
          have BK158 := n4_
          have HB := n5_
          clear n0_ n1_ n2_ n3_ n4_ n5_
          refine start_ (n := 14) (S := fun w' => w'.cell? ⟨gb158, 0, none⟩ = some (.slice Ao25 x159000_1.length co25) ∧ w'.cell? ⟨gb158, 1, none⟩ = some (.slice Ao26 x159001_1.length co26)) (ds := [11, 13]) #[false, false, false, false, false, false, false, false, false, false, false, false, false, false] (by kernel_rfl) rfl rfl ⟨(blk_cell BK158.1 0).trans rfl, (blk_cell BK158.1 1).trans rfl⟩ (fun hHeld => ?_); refine with_tabW madeJ.tab8 madeJ.bits8 (fun HT_ HW_ => ?_)
          generalize wr.drew = w27 at Q159_0 Q159_1 BK155 BK156 BK158 HB hHeld ⊢
          refine pure_ (i := 0) (N := some 35) (v := ?_) (a' := ?_) #[true, false, false, false, false, false, false, false, false, false, false, false, false, false] rfl rfl (any_of HT_.1 (by kernel_rfl)) (fun _ _ _ h => h) (Or.inl ⟨by rfl, ?_⟩) ?_ ?_
          rotate_left
          ·intro w'
           go_simp
           with_reducible rfl
          rotate_left
          ·simp only [Act.put, List.setIfInBounds_toArray, List.set_cons_zero, List.set_cons_succ, i64_w, i32_w]
           rfl
          refine pure_ (i := 2) (N := some 37) (v := ?_) (a' := ?_) #[true, false, true, false, false, false, false, false, false, false, false, false, false, false] rfl rfl (any_of HT_.1 (by kernel_rfl)) (fun _ _ _ h => h) (Or.inl ⟨by rfl, ?_⟩) ?_ ?_
          rotate_left
          ·intro w'
           go_simp
           with_reducible rfl
          rotate_left
          ·simp only [Act.put, List.setIfInBounds_toArray, List.set_cons_zero, List.set_cons_succ, i64_w, i32_w]
           rfl
          refine pure_ (i := 5) (N := some 40) (v := ?_) (a' := ?_) #[true, false, true, false, false, true, false, false, false, false, false, false, false, false] rfl rfl (any_of HT_.1 (by kernel_rfl)) (fun _ _ _ h => h) (Or.inl ⟨by rfl, ?_⟩) ?_ ?_
          rotate_left
          ·intro w'
           go_simp
           with_reducible rfl
          rotate_left
          ·simp only [Act.put, List.setIfInBounds_toArray, List.set_cons_zero, List.set_cons_succ, i64_w, i32_w]
           rfl
          refine pure_ (i := 7) (N := some 42) (v := ?_) (a' := ?_) #[true, false, true, false, false, true, false, true, false, false, false, false, false, false] rfl rfl (any_of HT_.1 (by kernel_rfl)) (fun _ _ _ h => h) (Or.inl ⟨by rfl, ?_⟩) ?_ ?_
          rotate_left
          ·intro w'
           go_simp
           with_reducible rfl
          rotate_left
          ·simp only [Act.put, List.setIfInBounds_toArray, List.set_cons_zero, List.set_cons_succ, i64_w, i32_w]
           rfl
          refine take_ (i := 1) (N := some 36) (v := ?_) (a' := ?_) #[true, true, true, false, false, true, false, true, false, false, false, false, false, false] rfl rfl (take_ofW HT_.1 HW_.1 (by kernel_rfl)) (fun _ _ _ h => h) (Or.inl ⟨by rfl, ?_⟩) hHeld ?_ ?_
          rotate_left
          ·rintro w' ⟨s0, s1⟩
           go_simp
           with_reducible rfl
          rotate_left
          ·simp only [Act.put, List.setIfInBounds_toArray, List.set_cons_zero, List.set_cons_succ, i64_w, i32_w]
           rfl
          refine take_ (i := 6) (N := some 41) (v := ?_) (a' := ?_) #[true, true, true, false, false, true, true, true, false, false, false, false, false, false] rfl rfl (take_ofW HT_.1 HW_.1 (by kernel_rfl)) (fun _ _ _ h => h) (Or.inl ⟨by rfl, ?_⟩) hHeld ?_ ?_
          rotate_left
          ·rintro w' ⟨s0, s1⟩
           go_simp
           with_reducible rfl
          rotate_left
          ·simp only [Act.put, List.setIfInBounds_toArray, List.set_cons_zero, List.set_cons_succ, i64_w, i32_w]
           rfl
          refine join_ (σ := Value × Value × Value) 4 #[true, true, true, true, true, true, true, true, true, false, true, false, false, false] (fun s_ => [(38, s_.1), (39, s_.2.1), (43, s_.2.2), (45, .pointer (some ⟨gb158, 0, none⟩))]) (fun s_ w' => (w'.cell? ⟨gb158, 0, none⟩ = some (.slice Ao25 x159000_1.length co25) ∧ w'.cell? ⟨gb158, 1, none⟩ = some (.slice Ao26 x159001_1.length co26)) ∧ (Kd.R (Kd.int .i64) 3 w' w.heap.size (fun k_ => some k_ ≠ (s_.2.1 : Value).ownBlock ∧ some k_ ≠ (s_.2.2 : Value).ownBlock ∧ some k_ ≠ (.slice Ao26 x159001_1.length co26 : Value).ownBlock) s_.1 y163) ∧ (Kd.R (Kd.int .i64) 3 w' w.heap.size (fun k_ => some k_ ≠ (s_.1 : Value).ownBlock ∧ some k_ ≠ (s_.2.2 : Value).ownBlock ∧ some k_ ≠ (.slice Ao26 x159001_1.length co26 : Value).ownBlock) s_.2.1 y166) ∧ (Kd.R (Kd.int .i64) 3 w' w.heap.size (fun k_ => some k_ ≠ (s_.1 : Value).ownBlock ∧ some k_ ≠ (s_.2.1 : Value).ownBlock ∧ some k_ ≠ (.slice Ao26 x159001_1.length co26 : Value).ownBlock) s_.2.2 y169) ∧ (Kd.R (Kd.int .i64) 3 w' w.heap.size (fun k_ => some k_ ≠ (s_.1 : Value).ownBlock ∧ some k_ ≠ (s_.2.1 : Value).ownBlock ∧ some k_ ≠ (s_.2.2 : Value).ownBlock) (.slice Ao26 x159001_1.length co26) x159001_1) ∧ (w'.heap[gb155]? = some (.cells #[.slice (some ad159) l0_0.length c0_0, .slice (some ad160) l0_1.length c0_1] 28 (0, 0))) ∧ (w'.heap[gb156]? = some (.cells #[.slice none 0 0, .slice none 0 0] 28 (0, 0))) ∧ (w'.heap[gb158]? = some (.cells #[.slice Ao25 x159000_1.length co25, .slice Ao26 x159001_1.length co26] 28 (0, 0))) ∧ (Below w.heap.size w w')) ?_ ?_
          rotate_left
          ·intro hCont
           refine two_ (i := 3) (j := 8) (Ni := some 38) (Nj := some 43) #[true, true, true, true, false, true, true, true, false, false, false, false, false, false] #[true, true, true, false, false, true, true, true, true, false, false, false, false, false] rfl rfl rfl rfl (two_of HT_.1 (by kernel_rfl)) (by decide) (by decide) (fun K hK => ?_) (fun K hK => ?_)
           ·skip
            refine Kd.R_lit_step (Kd.int .i64) _ 3 ?hg (N := 38) ?hd (xs := ([t161] : List Int)) (inner := [.int .i64 t161]) (ok := fun _ => True) (okp := fun _ => True) ?hr ?hp (fun _ hk => hk) trivial (Below.refl _ _) (Nat.le_refl _) (by simp) ?_; (case hd => rfl); (case hg => rfl); (case hr => first | (go_simp; done) | (go_simp; rfl)); (case hp => exact (Reps.one (show Kd.M (Kd.int .i64) _ _ _ t161 [.int .i64 t161] from rfl) (Reps.none _ _)))
            intro v164 w28 ho29 hb hg_ hnew_
            clear hg_ hnew_
            (first | rw [← Ny163.1] at ho29 | (simp only [Int.reduceToNat] at ho29; rw [← Ny163.1] at ho29))
            have n0_ := Aside0.mk (Kd.R_elder' (by (with_reducible repeat (first | apply Kd.R_alloc | apply Kd.R_drewN | apply Kd.R_drew)); exact Q159_0.1) (Kd.R_base ho29) hb)
            have n1_ := Aside0.mk (Kd.R_elder' (by (with_reducible repeat (first | apply Kd.R_alloc | apply Kd.R_drewN | apply Kd.R_drew)); exact Q159_1.1) (Kd.R_base ho29) hb)
            have n2_ := Aside0.mk (Kd.R_lower (Kd.R_new' (Kd.R_new' ho29 (Kd.R_lt (by (with_reducible repeat (first | apply Kd.R_alloc | apply Kd.R_drewN | apply Kd.R_drew)); exact Q159_0.1))) (Kd.R_lt (by (with_reducible repeat (first | apply Kd.R_alloc | apply Kd.R_drewN | apply Kd.R_drew)); exact Q159_1.1))) (below_size (by repeat (first | (with_reducible first | exact HB.1 | apply below_alloc | apply pw_below_drewN | apply below_drew1 | refine below_set ?_ GE155.1 | refine below_set ?_ GE156.1 | refine below_set ?_ GE158.1) | exact HB.1))))
            have n3_ := Aside0.mk (blk_below (g := gb155) (o := .cells #[.slice (some ad159) l0_0.length c0_0, .slice (some ad160) l0_1.length c0_1] 28 (0, 0)) (by (with_reducible repeat (first | refine blk_drewN ?_ _ | refine blk_drew ?_ | refine blk_alloc ?_ _)); exact BK155.1) hb)
            have n4_ := Aside0.mk (blk_below (g := gb156) (o := .cells #[.slice none 0 0, .slice none 0 0] 28 (0, 0)) (by (with_reducible repeat (first | refine blk_drewN ?_ _ | refine blk_drew ?_ | refine blk_alloc ?_ _)); exact BK156.1) hb)
            have n5_ := Aside0.mk (blk_below (g := gb158) (o := .cells #[.slice Ao25 x159000_1.length co25, .slice Ao26 x159001_1.length co26] 28 (0, 0)) (by (with_reducible repeat (first | refine blk_drewN ?_ _ | refine blk_drew ?_ | refine blk_alloc ?_ _)); exact BK158.1) hb)
            have n6_ := Aside0.mk (below_step (by repeat (first | (with_reducible first | exact HB.1 | apply below_alloc | apply pw_below_drewN | apply below_drew1 | refine below_set ?_ GE155.1 | refine below_set ?_ GE156.1 | refine below_set ?_ GE158.1) | exact HB.1)) hb)
            clear Q159_0
            clear Q159_1
            clear BK155
            clear BK156
            clear BK158
            clear HB
            have Q159_0 := n0_
            have Q159_1 := n1_
            have HO165 := n2_
            have BK155 := n3_
            have BK156 := n4_
            have BK158 := n5_
            have HB := n6_
            clear n0_ n1_ n2_ n3_ n4_ n5_ n6_
            clear hb ho29
            obtain ⟨Ao31, co31, eo31⟩ := Kd.R_slice HO165.1
            (first | subst eo31 | (injection eo31 with f1_ f2_ f3_; have f4_ := f1_.symm; have f5_ := f3_.symm; clear f1_ f2_ f3_; subst f4_; subst f5_))
            refine hK.out _ _ ⟨(blk_cell BK158.1 0).trans rfl, (blk_cell BK158.1 1).trans rfl⟩ (fun hHeld => ?_)
            clear hK K
            refine norm_ (a' := ?_) ?_ ?_
            rotate_left
            ·show Act.put _ (some 38) _ = _
             simp only [Act.put, List.setIfInBounds_toArray, List.set_cons_zero, List.set_cons_succ, i64_w, i32_w]
             rfl
            refine two_ (i := 4) (j := 8) (Ni := some 39) (Nj := some 43) #[true, true, true, true, true, true, true, true, false, false, false, false, false, false] #[true, true, true, true, false, true, true, true, true, false, false, false, false, false] rfl rfl rfl rfl (two_of HT_.1 (by kernel_rfl)) (by decide) (by decide) (fun K hK => ?_) (fun K hK => ?_)
            ·skip
             refine Kd.R_append_rows_step (Kd.int .i64) (w0 := w) w.heap.size (by rfl) (.tmp 36) (.tmp 38) 22 3 (.int .i64 0) 8 rfl Try.underlying22 info3 rfl (by decide) (by omega) (.slice Ao25 x159000_1.length co25) x159000_1 y163 _ _ _ (fun k_ => some k_ ≠ (.slice Ao26 x159001_1.length co26 : Value).ownBlock ∧ some k_ ≠ (.slice Ao31 y163.length co31 : Value).ownBlock) (fun _ => False) rfl rfl ?aO ?aR (fun _ _ h => h) (fun _ h => h.elim) ?aF ?aB ?aS ?aL ?_
             (case aR => repeat (first | exact (Kd.R_reads' HO165.1).2.2 | (with_reducible refine Kd.C_alloc ?_ _) | (with_reducible refine Kd.C_drewN ?_ _) | (with_reducible refine Kd.C_drew ?_)))
             (case aB => exact (by repeat (first | (with_reducible first | exact HB.1 | apply below_alloc | apply pw_below_drewN | apply below_drew1 | refine below_set ?_ GE155.1 | refine below_set ?_ GE156.1 | refine below_set ?_ GE158.1) | exact HB.1)))
             (case aF => exact (fun k_ hk => ⟨Kd.fresh' (Kd.R_lt (by (with_reducible repeat (first | apply Kd.R_alloc | apply Kd.R_drewN | apply Kd.R_drew)); exact Q159_1.1)) k_ hk, Kd.fresh' (Kd.R_lt (by (with_reducible repeat (first | apply Kd.R_alloc | apply Kd.R_drewN | apply Kd.R_drew)); exact HO165.1)) k_ hk⟩))
             (case aO => exact (by (with_reducible repeat (first | apply Kd.R_alloc | apply Kd.R_drewN | apply Kd.R_drew)); exact Q159_0.1))
             (case aS => exact (below_size (by repeat (first | (with_reducible first | exact HB.1 | apply below_alloc | apply pw_below_drewN | apply below_drew1 | refine below_set ?_ GE155.1 | refine below_set ?_ GE156.1 | refine below_set ?_ GE158.1) | exact HB.1))))
             (case aL => have := LMc20.1; omega)
             intro v167 w30 ho hb hg hat
             rw [← Ny166.1] at ho
             have n0_ := Aside0.mk (Kd.R_after (ok := (fun k_ => some k_ ≠ (.slice Ao31 y163.length co31 : Value).ownBlock)) (by (with_reducible repeat (first | apply Kd.R_alloc | apply Kd.R_drewN | apply Kd.R_drew)); exact Kd.R_mono Q159_1.1 (fun _ hk => ⟨hk.2, hk.1⟩)) hg hat)
             have n1_ := Aside0.mk (blk_grown (g := gb155) (o := .cells #[.slice (some ad159) l0_0.length c0_0, .slice (some ad160) l0_1.length c0_1] 28 (0, 0)) (by (with_reducible repeat (first | refine blk_drewN ?_ _ | refine blk_drew ?_ | refine blk_alloc ?_ _)); exact BK155.1) hg (Kd.R_ne Q159_0.1 BK155.1 (by decide)))
             have n2_ := Aside0.mk (blk_grown (g := gb156) (o := .cells #[.slice none 0 0, .slice none 0 0] 28 (0, 0)) (by (with_reducible repeat (first | refine blk_drewN ?_ _ | refine blk_drew ?_ | refine blk_alloc ?_ _)); exact BK156.1) hg (Kd.R_ne Q159_0.1 BK156.1 (by decide)))
             have n3_ := Aside0.mk (blk_grown (g := gb158) (o := .cells #[.slice Ao25 x159000_1.length co25, .slice Ao26 x159001_1.length co26] 28 (0, 0)) (by (with_reducible repeat (first | refine blk_drewN ?_ _ | refine blk_drew ?_ | refine blk_alloc ?_ _)); exact BK158.1) hg (Kd.R_ne Q159_0.1 BK158.1 (by decide)))
             have n4_ := Aside0.mk (Kd.R_after (ok := (fun k_ => some k_ ≠ (.slice Ao26 x159001_1.length co26 : Value).ownBlock)) (by (with_reducible repeat (first | apply Kd.R_alloc | apply Kd.R_drewN | apply Kd.R_drew)); exact Kd.R_mono HO165.1 (fun _ hk => ⟨hk.2, hk.1.2⟩)) hg hat)
             have n5_ := Aside0.mk (hb)
             have n6_ := Aside0.mk (ho)
             clear Q159_1
             clear BK155
             clear BK156
             clear BK158
             clear HO165
             clear HB
             clear Q159_0
             have Q159_1 := n0_
             have BK155 := n1_
             have BK156 := n2_
             have BK158 := n3_
             have HO165 := n4_
             have HB := n5_
             have HO168 := n6_
             clear n0_ n1_ n2_ n3_ n4_ n5_ n6_
             clear ho hb hg hat
             refine hK.out _ _ ⟨(blk_cell BK158.1 0).trans rfl, (blk_cell BK158.1 1).trans rfl⟩ (fun hHeld => ?_)
             clear hK K
             refine norm_ (a' := ?_) ?_ ?_
             rotate_left
             ·show Act.put _ (some 39) _ = _
              simp only [Act.put, List.setIfInBounds_toArray, List.set_cons_zero, List.set_cons_succ, i64_w, i32_w]
              rfl
             refine pure_ (i := 10) (N := some 45) (v := ?_) (a' := ?_) #[true, true, true, true, true, true, true, true, false, false, true, false, false, false] rfl rfl (any_of HT_.1 (by kernel_rfl)) (fun _ _ _ h => h) (Or.inl ⟨by rfl, ?_⟩) ?_ ?_
             rotate_left
             ·intro w'
              go_simp
              with_reducible rfl
             rotate_left
             ·simp only [Act.put, List.setIfInBounds_toArray, List.set_cons_zero, List.set_cons_succ, i64_w, i32_w]
              rfl
             refine one_ (i := 8) (N := some 43) #[true, true, true, true, true, true, true, true, true, false, true, false, false, false] rfl rfl (one_of HT_.1 (by kernel_rfl)) (by decide) (fun K hK => ?_)
             refine Kd.R_lit_step (Kd.int .i64) _ 3 ?hg (N := 43) ?hd (xs := ([t162] : List Int)) (inner := [.int .i64 t162]) (ok := fun _ => True) (okp := fun _ => True) ?hr ?hp (fun _ hk => hk) trivial (Below.refl _ _) (Nat.le_refl _) (by simp) ?_; (case hd => rfl); (case hg => rfl); (case hr => first | (go_simp; done) | (go_simp; rfl)); (case hp => exact (Reps.one (show Kd.M (Kd.int .i64) _ _ _ t162 [.int .i64 t162] from rfl) (Reps.none _ _)))
             intro v170 w32 ho33 hb hg_ hnew_
             clear hg_ hnew_
             (first | rw [← Ny169.1] at ho33 | (simp only [Int.reduceToNat] at ho33; rw [← Ny169.1] at ho33))
             have n0_ := Aside0.mk (Kd.R_elder' (by (with_reducible repeat (first | apply Kd.R_alloc | apply Kd.R_drewN | apply Kd.R_drew)); exact Q159_1.1) (Kd.R_base ho33) hb)
             have n1_ := Aside0.mk (Kd.R_elder' (by (with_reducible repeat (first | apply Kd.R_alloc | apply Kd.R_drewN | apply Kd.R_drew)); exact HO165.1) (Kd.R_base ho33) hb)
             have n2_ := Aside0.mk (Kd.R_elder' (by (with_reducible repeat (first | apply Kd.R_alloc | apply Kd.R_drewN | apply Kd.R_drew)); exact HO168.1) (Kd.R_base ho33) hb)
             have n3_ := Aside0.mk (Kd.R_lower (Kd.R_new' (Kd.R_new' (Kd.R_new' ho33 (Kd.R_lt (by (with_reducible repeat (first | apply Kd.R_alloc | apply Kd.R_drewN | apply Kd.R_drew)); exact Q159_1.1))) (Kd.R_lt (by (with_reducible repeat (first | apply Kd.R_alloc | apply Kd.R_drewN | apply Kd.R_drew)); exact HO165.1))) (Kd.R_lt (by (with_reducible repeat (first | apply Kd.R_alloc | apply Kd.R_drewN | apply Kd.R_drew)); exact HO168.1))) (below_size (by repeat (first | (with_reducible first | exact HB.1 | apply below_alloc | apply pw_below_drewN | apply below_drew1 | refine below_set ?_ GE155.1 | refine below_set ?_ GE156.1 | refine below_set ?_ GE158.1) | exact HB.1))))
             have n4_ := Aside0.mk (blk_below (g := gb155) (o := .cells #[.slice (some ad159) l0_0.length c0_0, .slice (some ad160) l0_1.length c0_1] 28 (0, 0)) (by (with_reducible repeat (first | refine blk_drewN ?_ _ | refine blk_drew ?_ | refine blk_alloc ?_ _)); exact BK155.1) hb)
             have n5_ := Aside0.mk (blk_below (g := gb156) (o := .cells #[.slice none 0 0, .slice none 0 0] 28 (0, 0)) (by (with_reducible repeat (first | refine blk_drewN ?_ _ | refine blk_drew ?_ | refine blk_alloc ?_ _)); exact BK156.1) hb)
             have n6_ := Aside0.mk (blk_below (g := gb158) (o := .cells #[.slice Ao25 x159000_1.length co25, .slice Ao26 x159001_1.length co26] 28 (0, 0)) (by (with_reducible repeat (first | refine blk_drewN ?_ _ | refine blk_drew ?_ | refine blk_alloc ?_ _)); exact BK158.1) hb)
             have n7_ := Aside0.mk (below_step (by repeat (first | (with_reducible first | exact HB.1 | apply below_alloc | apply pw_below_drewN | apply below_drew1 | refine below_set ?_ GE155.1 | refine below_set ?_ GE156.1 | refine below_set ?_ GE158.1) | exact HB.1)) hb)
             clear Q159_1
             clear HO165
             clear HO168
             clear BK155
             clear BK156
             clear BK158
             clear HB
             have Q159_1 := n0_
             have HO165 := n1_
             have HO168 := n2_
             have HO171 := n3_
             have BK155 := n4_
             have BK156 := n5_
             have BK158 := n6_
             have HB := n7_
             clear n0_ n1_ n2_ n3_ n4_ n5_ n6_ n7_
             clear hb ho33
             refine hK.out _ _ ⟨(blk_cell BK158.1 0).trans rfl, (blk_cell BK158.1 1).trans rfl⟩ (fun hHeld => ?_)
             clear hK K
             refine norm_ (a' := ?_) ?_ ?_
             rotate_left
             ·show Act.put _ (some 43) _ = _
              simp only [Act.put, List.setIfInBounds_toArray, List.set_cons_zero, List.set_cons_succ, i64_w, i32_w]
              rfl
             exact norm_ (by simp only [putAll, Act.put, List.setIfInBounds_toArray, List.set_cons_zero, List.set_cons_succ]) (hCont (.slice Ao31 y163.length co31, v167, v170) _ ⟨hHeld, (by (with_reducible repeat (first | apply Kd.R_alloc | apply Kd.R_drewN | apply Kd.R_drew)); exact Kd.R_mono HO165.1 (fun _ hk => ⟨hk.1.2, ⟨hk.2, hk.1.1⟩⟩)), (by (with_reducible repeat (first | apply Kd.R_alloc | apply Kd.R_drewN | apply Kd.R_drew)); exact Kd.R_mono HO168.1 (fun _ hk => ⟨hk.1.2, ⟨hk.2, hk.1.1⟩⟩)), (by (with_reducible repeat (first | apply Kd.R_alloc | apply Kd.R_drewN | apply Kd.R_drew)); exact Kd.R_mono HO171.1 (fun _ hk => ⟨hk.1.2, ⟨hk.2, hk.1.1.2⟩⟩)), (by (with_reducible repeat (first | apply Kd.R_alloc | apply Kd.R_drewN | apply Kd.R_drew)); exact Kd.R_mono Q159_1.1 (fun _ hk => ⟨hk.1.1, ⟨hk.1.2, hk.2⟩⟩)), (by (with_reducible repeat (first | refine blk_drewN ?_ _ | refine blk_drew ?_ | refine blk_alloc ?_ _)); exact BK155.1), (by (with_reducible repeat (first | refine blk_drewN ?_ _ | refine blk_drew ?_ | refine blk_alloc ?_ _)); exact BK156.1), (by (with_reducible repeat (first | refine blk_drewN ?_ _ | refine blk_drew ?_ | refine blk_alloc ?_ _)); exact BK158.1), (by repeat (first | (with_reducible first | exact HB.1 | apply below_alloc | apply pw_below_drewN | apply below_drew1 | refine below_set ?_ GE155.1 | refine below_set ?_ GE156.1 | refine below_set ?_ GE158.1) | exact HB.1))⟩)
            ·skip
             refine Kd.R_lit_step (Kd.int .i64) _ 3 ?hg (N := 43) ?hd (xs := ([t162] : List Int)) (inner := [.int .i64 t162]) (ok := fun _ => True) (okp := fun _ => True) ?hr ?hp (fun _ hk => hk) trivial (Below.refl _ _) (Nat.le_refl _) (by simp) ?_; (case hd => rfl); (case hg => rfl); (case hr => first | (go_simp; done) | (go_simp; rfl)); (case hp => exact (Reps.one (show Kd.M (Kd.int .i64) _ _ _ t162 [.int .i64 t162] from rfl) (Reps.none _ _)))
             intro v170 w30 ho31 hb hg_ hnew_
             clear hg_ hnew_
             (first | rw [← Ny169.1] at ho31 | (simp only [Int.reduceToNat] at ho31; rw [← Ny169.1] at ho31))
             have n0_ := Aside0.mk (Kd.R_elder' (by (with_reducible repeat (first | apply Kd.R_alloc | apply Kd.R_drewN | apply Kd.R_drew)); exact Q159_0.1) (Kd.R_base ho31) hb)
             have n1_ := Aside0.mk (Kd.R_elder' (by (with_reducible repeat (first | apply Kd.R_alloc | apply Kd.R_drewN | apply Kd.R_drew)); exact Q159_1.1) (Kd.R_base ho31) hb)
             have n2_ := Aside0.mk (Kd.R_elder' (by (with_reducible repeat (first | apply Kd.R_alloc | apply Kd.R_drewN | apply Kd.R_drew)); exact HO165.1) (Kd.R_base ho31) hb)
             have n3_ := Aside0.mk (Kd.R_lower (Kd.R_new' (Kd.R_new' (Kd.R_new' ho31 (Kd.R_lt (by (with_reducible repeat (first | apply Kd.R_alloc | apply Kd.R_drewN | apply Kd.R_drew)); exact Q159_0.1))) (Kd.R_lt (by (with_reducible repeat (first | apply Kd.R_alloc | apply Kd.R_drewN | apply Kd.R_drew)); exact Q159_1.1))) (Kd.R_lt (by (with_reducible repeat (first | apply Kd.R_alloc | apply Kd.R_drewN | apply Kd.R_drew)); exact HO165.1))) (below_size (by repeat (first | (with_reducible first | exact HB.1 | apply below_alloc | apply pw_below_drewN | apply below_drew1 | refine below_set ?_ GE155.1 | refine below_set ?_ GE156.1 | refine below_set ?_ GE158.1) | exact HB.1))))
             have n4_ := Aside0.mk (blk_below (g := gb155) (o := .cells #[.slice (some ad159) l0_0.length c0_0, .slice (some ad160) l0_1.length c0_1] 28 (0, 0)) (by (with_reducible repeat (first | refine blk_drewN ?_ _ | refine blk_drew ?_ | refine blk_alloc ?_ _)); exact BK155.1) hb)
             have n5_ := Aside0.mk (blk_below (g := gb156) (o := .cells #[.slice none 0 0, .slice none 0 0] 28 (0, 0)) (by (with_reducible repeat (first | refine blk_drewN ?_ _ | refine blk_drew ?_ | refine blk_alloc ?_ _)); exact BK156.1) hb)
             have n6_ := Aside0.mk (blk_below (g := gb158) (o := .cells #[.slice Ao25 x159000_1.length co25, .slice Ao26 x159001_1.length co26] 28 (0, 0)) (by (with_reducible repeat (first | refine blk_drewN ?_ _ | refine blk_drew ?_ | refine blk_alloc ?_ _)); exact BK158.1) hb)
             have n7_ := Aside0.mk (below_step (by repeat (first | (with_reducible first | exact HB.1 | apply below_alloc | apply pw_below_drewN | apply below_drew1 | refine below_set ?_ GE155.1 | refine below_set ?_ GE156.1 | refine below_set ?_ GE158.1) | exact HB.1)) hb)
             clear Q159_0
             clear Q159_1
             clear HO165
             clear BK155
             clear BK156
             clear BK158
             clear HB
             have Q159_0 := n0_
             have Q159_1 := n1_
             have HO165 := n2_
             have HO171 := n3_
             have BK155 := n4_
             have BK156 := n5_
             have BK158 := n6_
             have HB := n7_
             clear n0_ n1_ n2_ n3_ n4_ n5_ n6_ n7_
             clear hb ho31
             obtain ⟨Ao33, co33, eo33⟩ := Kd.R_slice HO165.1
             (first | subst eo33 | (injection eo33 with f1_ f2_ f3_; have f4_ := f1_.symm; have f5_ := f3_.symm; clear f1_ f2_ f3_; subst f4_; subst f5_))
             refine hK.out _ _ ⟨(blk_cell BK158.1 0).trans rfl, (blk_cell BK158.1 1).trans rfl⟩ (fun hHeld => ?_)
             clear hK K
             refine norm_ (a' := ?_) ?_ ?_
             rotate_left
             ·show Act.put _ (some 43) _ = _
              simp only [Act.put, List.setIfInBounds_toArray, List.set_cons_zero, List.set_cons_succ, i64_w, i32_w]
              rfl
             refine one_ (i := 4) (N := some 39) #[true, true, true, true, true, true, true, true, true, false, false, false, false, false] rfl rfl (one_of HT_.1 (by kernel_rfl)) (by decide) (fun K hK => ?_)
             refine Kd.R_append_rows_step (Kd.int .i64) (w0 := w) w.heap.size (by rfl) (.tmp 36) (.tmp 38) 22 3 (.int .i64 0) 8 rfl Try.underlying22 info3 rfl (by decide) (by omega) (.slice Ao25 x159000_1.length co25) x159000_1 y163 _ _ _ (fun k_ => some k_ ≠ (.slice Ao26 x159001_1.length co26 : Value).ownBlock ∧ some k_ ≠ (.slice Ao33 y163.length co33 : Value).ownBlock ∧ some k_ ≠ (v170 : Value).ownBlock) (fun _ => False) rfl rfl ?aO ?aR (fun _ _ h => h) (fun _ h => h.elim) ?aF ?aB ?aS ?aL ?_
             (case aR => repeat (first | exact (Kd.R_reads' HO165.1).2.2 | (with_reducible refine Kd.C_alloc ?_ _) | (with_reducible refine Kd.C_drewN ?_ _) | (with_reducible refine Kd.C_drew ?_)))
             (case aB => exact (by repeat (first | (with_reducible first | exact HB.1 | apply below_alloc | apply pw_below_drewN | apply below_drew1 | refine below_set ?_ GE155.1 | refine below_set ?_ GE156.1 | refine below_set ?_ GE158.1) | exact HB.1)))
             (case aF => exact (fun k_ hk => ⟨Kd.fresh' (Kd.R_lt (by (with_reducible repeat (first | apply Kd.R_alloc | apply Kd.R_drewN | apply Kd.R_drew)); exact Q159_1.1)) k_ hk, Kd.fresh' (Kd.R_lt (by (with_reducible repeat (first | apply Kd.R_alloc | apply Kd.R_drewN | apply Kd.R_drew)); exact HO165.1)) k_ hk, Kd.fresh' (Kd.R_lt (by (with_reducible repeat (first | apply Kd.R_alloc | apply Kd.R_drewN | apply Kd.R_drew)); exact HO171.1)) k_ hk⟩))
             (case aO => exact (by (with_reducible repeat (first | apply Kd.R_alloc | apply Kd.R_drewN | apply Kd.R_drew)); exact Kd.R_mono Q159_0.1 (fun _ hk => ⟨hk.1.1, ⟨hk.1.2, hk.2⟩⟩)))
             (case aS => exact (below_size (by repeat (first | (with_reducible first | exact HB.1 | apply below_alloc | apply pw_below_drewN | apply below_drew1 | refine below_set ?_ GE155.1 | refine below_set ?_ GE156.1 | refine below_set ?_ GE158.1) | exact HB.1))))
             (case aL => have := LMc20.1; omega)
             intro v167 w32 ho hb hg hat
             rw [← Ny166.1] at ho
             have n0_ := Aside0.mk (Kd.R_after (ok := (fun k_ => some k_ ≠ (.slice Ao33 y163.length co33 : Value).ownBlock ∧ some k_ ≠ (v170 : Value).ownBlock)) (by (with_reducible repeat (first | apply Kd.R_alloc | apply Kd.R_drewN | apply Kd.R_drew)); exact Kd.R_mono Q159_1.1 (fun _ hk => ⟨⟨hk.1.2, hk.2⟩, hk.1.1⟩)) hg hat)
             have n1_ := Aside0.mk (blk_grown (g := gb155) (o := .cells #[.slice (some ad159) l0_0.length c0_0, .slice (some ad160) l0_1.length c0_1] 28 (0, 0)) (by (with_reducible repeat (first | refine blk_drewN ?_ _ | refine blk_drew ?_ | refine blk_alloc ?_ _)); exact BK155.1) hg (Kd.R_ne Q159_0.1 BK155.1 (by decide)))
             have n2_ := Aside0.mk (blk_grown (g := gb156) (o := .cells #[.slice none 0 0, .slice none 0 0] 28 (0, 0)) (by (with_reducible repeat (first | refine blk_drewN ?_ _ | refine blk_drew ?_ | refine blk_alloc ?_ _)); exact BK156.1) hg (Kd.R_ne Q159_0.1 BK156.1 (by decide)))
             have n3_ := Aside0.mk (blk_grown (g := gb158) (o := .cells #[.slice Ao25 x159000_1.length co25, .slice Ao26 x159001_1.length co26] 28 (0, 0)) (by (with_reducible repeat (first | refine blk_drewN ?_ _ | refine blk_drew ?_ | refine blk_alloc ?_ _)); exact BK158.1) hg (Kd.R_ne Q159_0.1 BK158.1 (by decide)))
             have n4_ := Aside0.mk (Kd.R_after (ok := (fun k_ => some k_ ≠ (.slice Ao26 x159001_1.length co26 : Value).ownBlock ∧ some k_ ≠ (v170 : Value).ownBlock)) (by (with_reducible repeat (first | apply Kd.R_alloc | apply Kd.R_drewN | apply Kd.R_drew)); exact Kd.R_mono HO165.1 (fun _ hk => ⟨⟨hk.1.2, hk.2⟩, hk.1.1.2⟩)) hg hat)
             have n5_ := Aside0.mk (Kd.R_after (ok := (fun k_ => some k_ ≠ (.slice Ao26 x159001_1.length co26 : Value).ownBlock ∧ some k_ ≠ (.slice Ao33 y163.length co33 : Value).ownBlock)) (by (with_reducible repeat (first | apply Kd.R_alloc | apply Kd.R_drewN | apply Kd.R_drew)); exact Kd.R_mono HO171.1 (fun _ hk => ⟨⟨hk.1.2, hk.2⟩, hk.1.1.2⟩)) hg hat)
             have n6_ := Aside0.mk (hb)
             have n7_ := Aside0.mk (ho)
             clear Q159_1
             clear BK155
             clear BK156
             clear BK158
             clear HO165
             clear HO171
             clear HB
             clear Q159_0
             have Q159_1 := n0_
             have BK155 := n1_
             have BK156 := n2_
             have BK158 := n3_
             have HO165 := n4_
             have HO171 := n5_
             have HB := n6_
             have HO168 := n7_
             clear n0_ n1_ n2_ n3_ n4_ n5_ n6_ n7_
             clear ho hb hg hat
             refine hK.out _ _ ⟨(blk_cell BK158.1 0).trans rfl, (blk_cell BK158.1 1).trans rfl⟩ (fun hHeld => ?_)
             clear hK K
             refine norm_ (a' := ?_) ?_ ?_
             rotate_left
             ·show Act.put _ (some 39) _ = _
              simp only [Act.put, List.setIfInBounds_toArray, List.set_cons_zero, List.set_cons_succ, i64_w, i32_w]
              rfl
             refine pure_ (i := 10) (N := some 45) (v := ?_) (a' := ?_) #[true, true, true, true, true, true, true, true, true, false, true, false, false, false] rfl rfl (any_of HT_.1 (by kernel_rfl)) (fun _ _ _ h => h) (Or.inl ⟨by rfl, ?_⟩) ?_ ?_
             rotate_left
             ·intro w'
              go_simp
              with_reducible rfl
             rotate_left
             ·simp only [Act.put, List.setIfInBounds_toArray, List.set_cons_zero, List.set_cons_succ, i64_w, i32_w]
              rfl
             exact norm_ (by simp only [putAll, Act.put, List.setIfInBounds_toArray, List.set_cons_zero, List.set_cons_succ]) (hCont (.slice Ao33 y163.length co33, v167, v170) _ ⟨hHeld, (by (with_reducible repeat (first | apply Kd.R_alloc | apply Kd.R_drewN | apply Kd.R_drew)); exact Kd.R_mono HO165.1 (fun _ hk => ⟨hk.2, ⟨hk.1.2, hk.1.1⟩⟩)), (by (with_reducible repeat (first | apply Kd.R_alloc | apply Kd.R_drewN | apply Kd.R_drew)); exact Kd.R_mono HO168.1 (fun _ hk => ⟨hk.2.1, ⟨hk.2.2, hk.1⟩⟩)), (by (with_reducible repeat (first | apply Kd.R_alloc | apply Kd.R_drewN | apply Kd.R_drew)); exact Kd.R_mono HO171.1 (fun _ hk => ⟨hk.1.2, ⟨hk.2, hk.1.1⟩⟩)), (by (with_reducible repeat (first | apply Kd.R_alloc | apply Kd.R_drewN | apply Kd.R_drew)); exact Kd.R_mono Q159_1.1 (fun _ hk => ⟨hk.1.1, ⟨hk.2, hk.1.2⟩⟩)), (by (with_reducible repeat (first | refine blk_drewN ?_ _ | refine blk_drew ?_ | refine blk_alloc ?_ _)); exact BK155.1), (by (with_reducible repeat (first | refine blk_drewN ?_ _ | refine blk_drew ?_ | refine blk_alloc ?_ _)); exact BK156.1), (by (with_reducible repeat (first | refine blk_drewN ?_ _ | refine blk_drew ?_ | refine blk_alloc ?_ _)); exact BK158.1), (by repeat (first | (with_reducible first | exact HB.1 | apply below_alloc | apply pw_below_drewN | apply below_drew1 | refine below_set ?_ GE155.1 | refine below_set ?_ GE156.1 | refine below_set ?_ GE158.1) | exact HB.1))⟩)
           ·skip
            refine Kd.R_lit_step (Kd.int .i64) _ 3 ?hg (N := 43) ?hd (xs := ([t162] : List Int)) (inner := [.int .i64 t162]) (ok := fun _ => True) (okp := fun _ => True) ?hr ?hp (fun _ hk => hk) trivial (Below.refl _ _) (Nat.le_refl _) (by simp) ?_; (case hd => rfl); (case hg => rfl); (case hr => first | (go_simp; done) | (go_simp; rfl)); (case hp => exact (Reps.one (show Kd.M (Kd.int .i64) _ _ _ t162 [.int .i64 t162] from rfl) (Reps.none _ _)))
            intro v170 w28 ho29 hb hg_ hnew_
            clear hg_ hnew_
            (first | rw [← Ny169.1] at ho29 | (simp only [Int.reduceToNat] at ho29; rw [← Ny169.1] at ho29))
            have n0_ := Aside0.mk (Kd.R_elder' (by (with_reducible repeat (first | apply Kd.R_alloc | apply Kd.R_drewN | apply Kd.R_drew)); exact Q159_0.1) (Kd.R_base ho29) hb)
            have n1_ := Aside0.mk (Kd.R_elder' (by (with_reducible repeat (first | apply Kd.R_alloc | apply Kd.R_drewN | apply Kd.R_drew)); exact Q159_1.1) (Kd.R_base ho29) hb)
            have n2_ := Aside0.mk (Kd.R_lower (Kd.R_new' (Kd.R_new' ho29 (Kd.R_lt (by (with_reducible repeat (first | apply Kd.R_alloc | apply Kd.R_drewN | apply Kd.R_drew)); exact Q159_0.1))) (Kd.R_lt (by (with_reducible repeat (first | apply Kd.R_alloc | apply Kd.R_drewN | apply Kd.R_drew)); exact Q159_1.1))) (below_size (by repeat (first | (with_reducible first | exact HB.1 | apply below_alloc | apply pw_below_drewN | apply below_drew1 | refine below_set ?_ GE155.1 | refine below_set ?_ GE156.1 | refine below_set ?_ GE158.1) | exact HB.1))))
            have n3_ := Aside0.mk (blk_below (g := gb155) (o := .cells #[.slice (some ad159) l0_0.length c0_0, .slice (some ad160) l0_1.length c0_1] 28 (0, 0)) (by (with_reducible repeat (first | refine blk_drewN ?_ _ | refine blk_drew ?_ | refine blk_alloc ?_ _)); exact BK155.1) hb)
            have n4_ := Aside0.mk (blk_below (g := gb156) (o := .cells #[.slice none 0 0, .slice none 0 0] 28 (0, 0)) (by (with_reducible repeat (first | refine blk_drewN ?_ _ | refine blk_drew ?_ | refine blk_alloc ?_ _)); exact BK156.1) hb)
            have n5_ := Aside0.mk (blk_below (g := gb158) (o := .cells #[.slice Ao25 x159000_1.length co25, .slice Ao26 x159001_1.length co26] 28 (0, 0)) (by (with_reducible repeat (first | refine blk_drewN ?_ _ | refine blk_drew ?_ | refine blk_alloc ?_ _)); exact BK158.1) hb)
            have n6_ := Aside0.mk (below_step (by repeat (first | (with_reducible first | exact HB.1 | apply below_alloc | apply pw_below_drewN | apply below_drew1 | refine below_set ?_ GE155.1 | refine below_set ?_ GE156.1 | refine below_set ?_ GE158.1) | exact HB.1)) hb)
            clear Q159_0
            clear Q159_1
            clear BK155
            clear BK156
            clear BK158
            clear HB
            have Q159_0 := n0_
            have Q159_1 := n1_
            have HO171 := n2_
            have BK155 := n3_
            have BK156 := n4_
            have BK158 := n5_
            have HB := n6_
            clear n0_ n1_ n2_ n3_ n4_ n5_ n6_
            clear hb ho29
            refine hK.out _ _ ⟨(blk_cell BK158.1 0).trans rfl, (blk_cell BK158.1 1).trans rfl⟩ (fun hHeld => ?_)
            clear hK K
            refine norm_ (a' := ?_) ?_ ?_
            rotate_left
            ·show Act.put _ (some 43) _ = _
             simp only [Act.put, List.setIfInBounds_toArray, List.set_cons_zero, List.set_cons_succ, i64_w, i32_w]
             rfl
            refine one_ (i := 3) (N := some 38) #[true, true, true, true, false, true, true, true, true, false, false, false, false, false] rfl rfl (one_of HT_.1 (by kernel_rfl)) (by decide) (fun K hK => ?_)
            refine Kd.R_lit_step (Kd.int .i64) _ 3 ?hg (N := 38) ?hd (xs := ([t161] : List Int)) (inner := [.int .i64 t161]) (ok := fun _ => True) (okp := fun _ => True) ?hr ?hp (fun _ hk => hk) trivial (Below.refl _ _) (Nat.le_refl _) (by simp) ?_; (case hd => rfl); (case hg => rfl); (case hr => first | (go_simp; done) | (go_simp; rfl)); (case hp => exact (Reps.one (show Kd.M (Kd.int .i64) _ _ _ t161 [.int .i64 t161] from rfl) (Reps.none _ _)))
            intro v164 w30 ho31 hb hg_ hnew_
            clear hg_ hnew_
            (first | rw [← Ny163.1] at ho31 | (simp only [Int.reduceToNat] at ho31; rw [← Ny163.1] at ho31))
            have n0_ := Aside0.mk (Kd.R_elder' (by (with_reducible repeat (first | apply Kd.R_alloc | apply Kd.R_drewN | apply Kd.R_drew)); exact Q159_0.1) (Kd.R_base ho31) hb)
            have n1_ := Aside0.mk (Kd.R_elder' (by (with_reducible repeat (first | apply Kd.R_alloc | apply Kd.R_drewN | apply Kd.R_drew)); exact Q159_1.1) (Kd.R_base ho31) hb)
            have n2_ := Aside0.mk (Kd.R_elder' (by (with_reducible repeat (first | apply Kd.R_alloc | apply Kd.R_drewN | apply Kd.R_drew)); exact HO171.1) (Kd.R_base ho31) hb)
            have n3_ := Aside0.mk (Kd.R_lower (Kd.R_new' (Kd.R_new' (Kd.R_new' ho31 (Kd.R_lt (by (with_reducible repeat (first | apply Kd.R_alloc | apply Kd.R_drewN | apply Kd.R_drew)); exact Q159_0.1))) (Kd.R_lt (by (with_reducible repeat (first | apply Kd.R_alloc | apply Kd.R_drewN | apply Kd.R_drew)); exact Q159_1.1))) (Kd.R_lt (by (with_reducible repeat (first | apply Kd.R_alloc | apply Kd.R_drewN | apply Kd.R_drew)); exact HO171.1))) (below_size (by repeat (first | (with_reducible first | exact HB.1 | apply below_alloc | apply pw_below_drewN | apply below_drew1 | refine below_set ?_ GE155.1 | refine below_set ?_ GE156.1 | refine below_set ?_ GE158.1) | exact HB.1))))
            have n4_ := Aside0.mk (blk_below (g := gb155) (o := .cells #[.slice (some ad159) l0_0.length c0_0, .slice (some ad160) l0_1.length c0_1] 28 (0, 0)) (by (with_reducible repeat (first | refine blk_drewN ?_ _ | refine blk_drew ?_ | refine blk_alloc ?_ _)); exact BK155.1) hb)
            have n5_ := Aside0.mk (blk_below (g := gb156) (o := .cells #[.slice none 0 0, .slice none 0 0] 28 (0, 0)) (by (with_reducible repeat (first | refine blk_drewN ?_ _ | refine blk_drew ?_ | refine blk_alloc ?_ _)); exact BK156.1) hb)
            have n6_ := Aside0.mk (blk_below (g := gb158) (o := .cells #[.slice Ao25 x159000_1.length co25, .slice Ao26 x159001_1.length co26] 28 (0, 0)) (by (with_reducible repeat (first | refine blk_drewN ?_ _ | refine blk_drew ?_ | refine blk_alloc ?_ _)); exact BK158.1) hb)
            have n7_ := Aside0.mk (below_step (by repeat (first | (with_reducible first | exact HB.1 | apply below_alloc | apply pw_below_drewN | apply below_drew1 | refine below_set ?_ GE155.1 | refine below_set ?_ GE156.1 | refine below_set ?_ GE158.1) | exact HB.1)) hb)
            clear Q159_0
            clear Q159_1
            clear HO171
            clear BK155
            clear BK156
            clear BK158
            clear HB
            have Q159_0 := n0_
            have Q159_1 := n1_
            have HO171 := n2_
            have HO165 := n3_
            have BK155 := n4_
            have BK156 := n5_
            have BK158 := n6_
            have HB := n7_
            clear n0_ n1_ n2_ n3_ n4_ n5_ n6_ n7_
            clear hb ho31
            obtain ⟨Ao33, co33, eo33⟩ := Kd.R_slice HO165.1
            (first | subst eo33 | (injection eo33 with f1_ f2_ f3_; have f4_ := f1_.symm; have f5_ := f3_.symm; clear f1_ f2_ f3_; subst f4_; subst f5_))
            refine hK.out _ _ ⟨(blk_cell BK158.1 0).trans rfl, (blk_cell BK158.1 1).trans rfl⟩ (fun hHeld => ?_)
            clear hK K
            refine norm_ (a' := ?_) ?_ ?_
            rotate_left
            ·show Act.put _ (some 38) _ = _
             simp only [Act.put, List.setIfInBounds_toArray, List.set_cons_zero, List.set_cons_succ, i64_w, i32_w]
             rfl
            refine one_ (i := 4) (N := some 39) #[true, true, true, true, true, true, true, true, true, false, false, false, false, false] rfl rfl (one_of HT_.1 (by kernel_rfl)) (by decide) (fun K hK => ?_)
            refine Kd.R_append_rows_step (Kd.int .i64) (w0 := w) w.heap.size (by rfl) (.tmp 36) (.tmp 38) 22 3 (.int .i64 0) 8 rfl Try.underlying22 info3 rfl (by decide) (by omega) (.slice Ao25 x159000_1.length co25) x159000_1 y163 _ _ _ (fun k_ => some k_ ≠ (.slice Ao26 x159001_1.length co26 : Value).ownBlock ∧ some k_ ≠ (v170 : Value).ownBlock ∧ some k_ ≠ (.slice Ao33 y163.length co33 : Value).ownBlock) (fun _ => False) rfl rfl ?aO ?aR (fun _ _ h => h) (fun _ h => h.elim) ?aF ?aB ?aS ?aL ?_
            (case aR => repeat (first | exact (Kd.R_reads' HO165.1).2.2 | (with_reducible refine Kd.C_alloc ?_ _) | (with_reducible refine Kd.C_drewN ?_ _) | (with_reducible refine Kd.C_drew ?_)))
            (case aB => exact (by repeat (first | (with_reducible first | exact HB.1 | apply below_alloc | apply pw_below_drewN | apply below_drew1 | refine below_set ?_ GE155.1 | refine below_set ?_ GE156.1 | refine below_set ?_ GE158.1) | exact HB.1)))
            (case aF => exact (fun k_ hk => ⟨Kd.fresh' (Kd.R_lt (by (with_reducible repeat (first | apply Kd.R_alloc | apply Kd.R_drewN | apply Kd.R_drew)); exact Q159_1.1)) k_ hk, Kd.fresh' (Kd.R_lt (by (with_reducible repeat (first | apply Kd.R_alloc | apply Kd.R_drewN | apply Kd.R_drew)); exact HO171.1)) k_ hk, Kd.fresh' (Kd.R_lt (by (with_reducible repeat (first | apply Kd.R_alloc | apply Kd.R_drewN | apply Kd.R_drew)); exact HO165.1)) k_ hk⟩))
            (case aO => exact (by (with_reducible repeat (first | apply Kd.R_alloc | apply Kd.R_drewN | apply Kd.R_drew)); exact Kd.R_mono Q159_0.1 (fun _ hk => ⟨hk.1.1, ⟨hk.1.2, hk.2⟩⟩)))
            (case aS => exact (below_size (by repeat (first | (with_reducible first | exact HB.1 | apply below_alloc | apply pw_below_drewN | apply below_drew1 | refine below_set ?_ GE155.1 | refine below_set ?_ GE156.1 | refine below_set ?_ GE158.1) | exact HB.1))))
            (case aL => have := LMc20.1; omega)
            intro v167 w32 ho hb hg hat
            rw [← Ny166.1] at ho
            have n0_ := Aside0.mk (Kd.R_after (ok := (fun k_ => some k_ ≠ (v170 : Value).ownBlock ∧ some k_ ≠ (.slice Ao33 y163.length co33 : Value).ownBlock)) (by (with_reducible repeat (first | apply Kd.R_alloc | apply Kd.R_drewN | apply Kd.R_drew)); exact Kd.R_mono Q159_1.1 (fun _ hk => ⟨⟨hk.1.2, hk.2⟩, hk.1.1⟩)) hg hat)
            have n1_ := Aside0.mk (blk_grown (g := gb155) (o := .cells #[.slice (some ad159) l0_0.length c0_0, .slice (some ad160) l0_1.length c0_1] 28 (0, 0)) (by (with_reducible repeat (first | refine blk_drewN ?_ _ | refine blk_drew ?_ | refine blk_alloc ?_ _)); exact BK155.1) hg (Kd.R_ne Q159_0.1 BK155.1 (by decide)))
            have n2_ := Aside0.mk (blk_grown (g := gb156) (o := .cells #[.slice none 0 0, .slice none 0 0] 28 (0, 0)) (by (with_reducible repeat (first | refine blk_drewN ?_ _ | refine blk_drew ?_ | refine blk_alloc ?_ _)); exact BK156.1) hg (Kd.R_ne Q159_0.1 BK156.1 (by decide)))
            have n3_ := Aside0.mk (blk_grown (g := gb158) (o := .cells #[.slice Ao25 x159000_1.length co25, .slice Ao26 x159001_1.length co26] 28 (0, 0)) (by (with_reducible repeat (first | refine blk_drewN ?_ _ | refine blk_drew ?_ | refine blk_alloc ?_ _)); exact BK158.1) hg (Kd.R_ne Q159_0.1 BK158.1 (by decide)))
            have n4_ := Aside0.mk (Kd.R_after (ok := (fun k_ => some k_ ≠ (.slice Ao26 x159001_1.length co26 : Value).ownBlock ∧ some k_ ≠ (.slice Ao33 y163.length co33 : Value).ownBlock)) (by (with_reducible repeat (first | apply Kd.R_alloc | apply Kd.R_drewN | apply Kd.R_drew)); exact Kd.R_mono HO171.1 (fun _ hk => ⟨⟨hk.1.2, hk.2⟩, hk.1.1.2⟩)) hg hat)
            have n5_ := Aside0.mk (Kd.R_after (ok := (fun k_ => some k_ ≠ (.slice Ao26 x159001_1.length co26 : Value).ownBlock ∧ some k_ ≠ (v170 : Value).ownBlock)) (by (with_reducible repeat (first | apply Kd.R_alloc | apply Kd.R_drewN | apply Kd.R_drew)); exact Kd.R_mono HO165.1 (fun _ hk => ⟨⟨hk.1.2, hk.2⟩, hk.1.1.2⟩)) hg hat)
            have n6_ := Aside0.mk (hb)
            have n7_ := Aside0.mk (ho)
            clear Q159_1
            clear BK155
            clear BK156
            clear BK158
            clear HO171
            clear HO165
            clear HB
            clear Q159_0
            have Q159_1 := n0_
            have BK155 := n1_
            have BK156 := n2_
            have BK158 := n3_
            have HO171 := n4_
            have HO165 := n5_
            have HB := n6_
            have HO168 := n7_
            clear n0_ n1_ n2_ n3_ n4_ n5_ n6_ n7_
            clear ho hb hg hat
            refine hK.out _ _ ⟨(blk_cell BK158.1 0).trans rfl, (blk_cell BK158.1 1).trans rfl⟩ (fun hHeld => ?_)
            clear hK K
            refine norm_ (a' := ?_) ?_ ?_
            rotate_left
            ·show Act.put _ (some 39) _ = _
             simp only [Act.put, List.setIfInBounds_toArray, List.set_cons_zero, List.set_cons_succ, i64_w, i32_w]
             rfl
            refine pure_ (i := 10) (N := some 45) (v := ?_) (a' := ?_) #[true, true, true, true, true, true, true, true, true, false, true, false, false, false] rfl rfl (any_of HT_.1 (by kernel_rfl)) (fun _ _ _ h => h) (Or.inl ⟨by rfl, ?_⟩) ?_ ?_
            rotate_left
            ·intro w'
             go_simp
             with_reducible rfl
            rotate_left
            ·simp only [Act.put, List.setIfInBounds_toArray, List.set_cons_zero, List.set_cons_succ, i64_w, i32_w]
             rfl
            exact norm_ (by simp only [putAll, Act.put, List.setIfInBounds_toArray, List.set_cons_zero, List.set_cons_succ]) (hCont (.slice Ao33 y163.length co33, v167, v170) _ ⟨hHeld, (by (with_reducible repeat (first | apply Kd.R_alloc | apply Kd.R_drewN | apply Kd.R_drew)); exact Kd.R_mono HO165.1 (fun _ hk => ⟨hk.2, ⟨hk.1.2, hk.1.1⟩⟩)), (by (with_reducible repeat (first | apply Kd.R_alloc | apply Kd.R_drewN | apply Kd.R_drew)); exact Kd.R_mono HO168.1 (fun _ hk => ⟨hk.2.2, ⟨hk.2.1, hk.1⟩⟩)), (by (with_reducible repeat (first | apply Kd.R_alloc | apply Kd.R_drewN | apply Kd.R_drew)); exact Kd.R_mono HO171.1 (fun _ hk => ⟨hk.1.2, ⟨hk.2, hk.1.1⟩⟩)), (by (with_reducible repeat (first | apply Kd.R_alloc | apply Kd.R_drewN | apply Kd.R_drew)); exact Kd.R_mono Q159_1.1 (fun _ hk => ⟨hk.1.2, ⟨hk.2, hk.1.1⟩⟩)), (by (with_reducible repeat (first | refine blk_drewN ?_ _ | refine blk_drew ?_ | refine blk_alloc ?_ _)); exact BK155.1), (by (with_reducible repeat (first | refine blk_drewN ?_ _ | refine blk_drew ?_ | refine blk_alloc ?_ _)); exact BK156.1), (by (with_reducible repeat (first | refine blk_drewN ?_ _ | refine blk_drew ?_ | refine blk_alloc ?_ _)); exact BK158.1), (by repeat (first | (with_reducible first | exact HB.1 | apply below_alloc | apply pw_below_drewN | apply below_drew1 | refine below_set ?_ GE155.1 | refine below_set ?_ GE156.1 | refine below_set ?_ GE158.1) | exact HB.1))⟩)
          rintro ⟨v164, v167, v170⟩ w34 ⟨hS_, h0_, h1_, h2_, h3_, h4_, h5_, h6_, h7_⟩
          have n0_ : Aside0 (Kd.R (Kd.int .i64) 3 w34 w.heap.size (fun k_ => some k_ ≠ (v167 : Value).ownBlock ∧ some k_ ≠ (v170 : Value).ownBlock ∧ some k_ ≠ (.slice Ao26 x159001_1.length co26 : Value).ownBlock) v164 y163) := ⟨h0_⟩
          have n1_ : Aside0 (Kd.R (Kd.int .i64) 3 w34 w.heap.size (fun k_ => some k_ ≠ (v164 : Value).ownBlock ∧ some k_ ≠ (v170 : Value).ownBlock ∧ some k_ ≠ (.slice Ao26 x159001_1.length co26 : Value).ownBlock) v167 y166) := ⟨h1_⟩
          have n2_ : Aside0 (Kd.R (Kd.int .i64) 3 w34 w.heap.size (fun k_ => some k_ ≠ (v164 : Value).ownBlock ∧ some k_ ≠ (v167 : Value).ownBlock ∧ some k_ ≠ (.slice Ao26 x159001_1.length co26 : Value).ownBlock) v170 y169) := ⟨h2_⟩
          have n3_ : Aside0 (Kd.R (Kd.int .i64) 3 w34 w.heap.size (fun k_ => some k_ ≠ (v164 : Value).ownBlock ∧ some k_ ≠ (v167 : Value).ownBlock ∧ some k_ ≠ (v170 : Value).ownBlock) (.slice Ao26 x159001_1.length co26) x159001_1) := ⟨h3_⟩
          have n4_ : Aside0 (w34.heap[gb155]? = some (.cells #[.slice (some ad159) l0_0.length c0_0, .slice (some ad160) l0_1.length c0_1] 28 (0, 0))) := ⟨h4_⟩
          have n5_ : Aside0 (w34.heap[gb156]? = some (.cells #[.slice none 0 0, .slice none 0 0] 28 (0, 0))) := ⟨h5_⟩
          have n6_ : Aside0 (w34.heap[gb158]? = some (.cells #[.slice Ao25 x159000_1.length co25, .slice Ao26 x159001_1.length co26] 28 (0, 0))) := ⟨h6_⟩
          have n7_ : Aside0 (Below w.heap.size w w34) := ⟨h7_⟩
          clear Q159_0
          clear Q159_1
          clear BK155
          clear BK156
          clear BK158
          clear HB
          clear h0_ h1_ h2_ h3_ h4_ h5_ h6_ h7_
          have HO165 := n0_
          have HO168 := n1_
          have HO171 := n2_
          have Q159_1 := n3_
          have BK155 := n4_
          have BK156 := n5_
          have BK158 := n6_
          have HB := n7_
          clear n0_ n1_ n2_ n3_ n4_ n5_ n6_ n7_
          have hHeld : w34.cell? ⟨gb158, 0, none⟩ = some (.slice Ao25 x159000_1.length co25) ∧ w34.cell? ⟨gb158, 1, none⟩ = some (.slice Ao26 x159001_1.length co26) := hS_
          obtain ⟨Ao36, co36, eo36⟩ := Kd.R_slice HO171.1
          (first | subst eo36 | (injection eo36 with f1_ f2_ f3_; have f4_ := f1_.symm; have f5_ := f3_.symm; clear f1_ f2_ f3_; subst f4_; subst f5_))
          refine norm_ (a' := ?_) ?_ ?_
          rotate_left
          ·simp only [putAll, Act.put, List.setIfInBounds_toArray, List.set_cons_zero, List.set_cons_succ]
           rfl
          refine one_ (i := 9) (N := some 44) #[true, true, true, true, true, true, true, true, true, true, true, false, false, false] rfl rfl (one_of HT_.1 (by kernel_rfl)) (by decide) (fun K hK => ?_)
          refine Kd.R_append_rows_step (Kd.int .i64) (w0 := w) w.heap.size (by rfl) (.tmp 41) (.tmp 43) 22 3 (.int .i64 0) 8 rfl Try.underlying22 info3 rfl (by decide) (by omega) (.slice Ao26 x159001_1.length co26) x159001_1 y169 _ _ _ (fun k_ => some k_ ≠ (v164 : Value).ownBlock ∧ some k_ ≠ (v167 : Value).ownBlock ∧ some k_ ≠ (.slice Ao36 y169.length co36 : Value).ownBlock) (fun _ => False) rfl rfl ?aO ?aR (fun _ _ h => h) (fun _ h => h.elim) ?aF ?aB ?aS ?aL ?_
          (case aR => repeat (first | exact (Kd.R_reads' HO171.1).2.2 | (with_reducible refine Kd.C_alloc ?_ _) | (with_reducible refine Kd.C_drewN ?_ _) | (with_reducible refine Kd.C_drew ?_)))
          (case aB => exact (by repeat (first | (with_reducible first | exact HB.1 | apply below_alloc | apply pw_below_drewN | apply below_drew1 | refine below_set ?_ GE155.1 | refine below_set ?_ GE156.1 | refine below_set ?_ GE158.1) | exact HB.1)))
          (case aF => exact (fun k_ hk => ⟨Kd.fresh' (Kd.R_lt (by (with_reducible repeat (first | apply Kd.R_alloc | apply Kd.R_drewN | apply Kd.R_drew)); exact HO165.1)) k_ hk, Kd.fresh' (Kd.R_lt (by (with_reducible repeat (first | apply Kd.R_alloc | apply Kd.R_drewN | apply Kd.R_drew)); exact HO168.1)) k_ hk, Kd.fresh' (Kd.R_lt (by (with_reducible repeat (first | apply Kd.R_alloc | apply Kd.R_drewN | apply Kd.R_drew)); exact HO171.1)) k_ hk⟩))
          (case aO => exact (by (with_reducible repeat (first | apply Kd.R_alloc | apply Kd.R_drewN | apply Kd.R_drew)); exact Q159_1.1))
          (case aS => exact (below_size (by repeat (first | (with_reducible first | exact HB.1 | apply below_alloc | apply pw_below_drewN | apply below_drew1 | refine below_set ?_ GE155.1 | refine below_set ?_ GE156.1 | refine below_set ?_ GE158.1) | exact HB.1))))
          (case aL => have := LMc21.1; omega)
          intro v173 w35 ho hb hg hat
          rw [← Ny172.1] at ho
          have n0_ := Aside0.mk (blk_grown (g := gb155) (o := .cells #[.slice (some ad159) l0_0.length c0_0, .slice (some ad160) l0_1.length c0_1] 28 (0, 0)) (by (with_reducible repeat (first | refine blk_drewN ?_ _ | refine blk_drew ?_ | refine blk_alloc ?_ _)); exact BK155.1) hg (Kd.R_ne Q159_1.1 BK155.1 (by decide)))
          have n1_ := Aside0.mk (blk_grown (g := gb156) (o := .cells #[.slice none 0 0, .slice none 0 0] 28 (0, 0)) (by (with_reducible repeat (first | refine blk_drewN ?_ _ | refine blk_drew ?_ | refine blk_alloc ?_ _)); exact BK156.1) hg (Kd.R_ne Q159_1.1 BK156.1 (by decide)))
          have n2_ := Aside0.mk (blk_grown (g := gb158) (o := .cells #[.slice Ao25 x159000_1.length co25, .slice Ao26 x159001_1.length co26] 28 (0, 0)) (by (with_reducible repeat (first | refine blk_drewN ?_ _ | refine blk_drew ?_ | refine blk_alloc ?_ _)); exact BK158.1) hg (Kd.R_ne Q159_1.1 BK158.1 (by decide)))
          have n3_ := Aside0.mk (Kd.R_after (ok := (fun k_ => some k_ ≠ (v167 : Value).ownBlock ∧ some k_ ≠ (.slice Ao36 y169.length co36 : Value).ownBlock)) (by (with_reducible repeat (first | apply Kd.R_alloc | apply Kd.R_drewN | apply Kd.R_drew)); exact Kd.R_mono HO165.1 (fun _ hk => ⟨⟨hk.1, hk.2.1⟩, hk.2.2⟩)) hg hat)
          have n4_ := Aside0.mk (Kd.R_after (ok := (fun k_ => some k_ ≠ (v164 : Value).ownBlock ∧ some k_ ≠ (.slice Ao36 y169.length co36 : Value).ownBlock)) (by (with_reducible repeat (first | apply Kd.R_alloc | apply Kd.R_drewN | apply Kd.R_drew)); exact Kd.R_mono HO168.1 (fun _ hk => ⟨⟨hk.1, hk.2.1⟩, hk.2.2⟩)) hg hat)
          have n5_ := Aside0.mk (Kd.R_after (ok := (fun k_ => some k_ ≠ (v164 : Value).ownBlock ∧ some k_ ≠ (v167 : Value).ownBlock)) (by (with_reducible repeat (first | apply Kd.R_alloc | apply Kd.R_drewN | apply Kd.R_drew)); exact Kd.R_mono HO171.1 (fun _ hk => ⟨⟨hk.1, hk.2.1⟩, hk.2.2⟩)) hg hat)
          have n6_ := Aside0.mk (hb)
          have n7_ := Aside0.mk (ho)
          clear BK155
          clear BK156
          clear BK158
          clear HO165
          clear HO168
          clear HO171
          clear HB
          clear Q159_1
          have BK155 := n0_
          have BK156 := n1_
          have BK158 := n2_
          have HO165 := n3_
          have HO168 := n4_
          have HO171 := n5_
          have HB := n6_
          have HO174 := n7_
          clear n0_ n1_ n2_ n3_ n4_ n5_ n6_ n7_
          clear ho hb hg hat
          obtain ⟨Ao37, co37, eo37⟩ := Kd.R_slice HO168.1
          (first | subst eo37 | (injection eo37 with f1_ f2_ f3_; have f4_ := f1_.symm; have f5_ := f3_.symm; clear f1_ f2_ f3_; subst f4_; subst f5_))
          obtain ⟨Ao39, co39, eo39⟩ := Kd.R_slice HO174.1
          (first | subst eo39 | (injection eo39 with f1_ f2_ f3_; have f4_ := f1_.symm; have f5_ := f3_.symm; clear f1_ f2_ f3_; subst f4_; subst f5_))
          refine hK.out _ _ ⟨(blk_cell BK158.1 0).trans rfl, (blk_cell BK158.1 1).trans rfl⟩ (fun hHeld => ?_)
          clear hK K
          refine norm_ (a' := ?_) ?_ ?_
          rotate_left
          ·show Act.put _ (some 44) _ = _
           simp only [Act.put, List.setIfInBounds_toArray, List.set_cons_zero, List.set_cons_succ, i64_w, i32_w]
           rfl
          refine last_ (i := 11) (N := none) #[true, true, true, true, true, true, true, true, true, true, true, true, false, false] rfl rfl (one_of HT_.1 (by kernel_rfl)) (by decide) (fun K hK => ?_)
          have hs38 : w35.cell? ⟨gb158, 0, none⟩ = some (.slice Ao25 x159000_1.length co25) := (blk_cell BK158.1 0).trans rfl
          have hfs38 := blk_frozen BK158.1 0
          have hns38_0 := NB155_158.1
          have hns38_1 := NB156_158.1
          have hms38_0 := NB158_155.1
          have hms38_1 := NB158_156.1
          refine skip_ (w1 := ?_) (by rfl) rfl ?_ ?_
          rotate_left
          ·go_simp
           rfl
          refine hK.out _ _ ?_
          clear hK K
          refine pure_ (i := 12) (N := some 46) (v := ?_) (a' := ?_) #[true, true, true, true, true, true, true, true, true, true, true, true, true, false] rfl rfl (any_of HT_.1 (by kernel_rfl)) (fun _ _ _ h => h) (Or.inl ⟨by rfl, ?_⟩) ?_ ?_
          rotate_left
          ·intro w'
           go_simp
           with_reducible rfl
          rotate_left
          ·simp only [Act.put, List.setIfInBounds_toArray, List.set_cons_zero, List.set_cons_succ, i64_w, i32_w]
           rfl
          refine last_ (i := 13) (N := none) #[true, true, true, true, true, true, true, true, true, true, true, true, true, true] rfl rfl (one_of HT_.1 (by kernel_rfl)) (by decide) (fun K hK => ?_)
          have hs40 : w35.cell? ⟨gb158, 1, none⟩ = some (.slice Ao26 x159001_1.length co26) := (blk_cell BK158.1 1).trans rfl
          have hfs40 := blk_frozen BK158.1 1
          have hns40_0 := NB155_158.1
          have hns40_1 := NB156_158.1
          have hms40_0 := NB158_155.1
          have hms40_1 := NB158_156.1
          refine skip_ (w1 := ?_) (by rfl) rfl ?_ ?_
          rotate_left
          ·go_simp
           rfl
          refine hK.out _ _ ?_
          clear hK K
          refine done_ (done_of HT_.1 (by kernel_rfl)) ?_
          try go_wp2
          go_roundg k1
          case measure => have := HK1.1; omega
          case rel => exact ⟨w, ts, (wrap64 (x19_1 + 1)), (y166), (y172), (.slice Ao37 y166.length co37), (.slice Ao39 y172.length co39), (by first | rfl | (simp; done) | (simp [*]; done) | (simp [Go.IntWalk.i64_left]; done)), H', ⟨by have := HK1.1; omega⟩, ⟨by (with_reducible repeat (first | apply Kd.R_alloc | apply Kd.R_drewN | apply Kd.R_drew)); exact Kd.R_mono (Kd.R_far (p := ⟨gb158, 1, none⟩) (Kd.R_far (p := ⟨gb158, 0, none⟩) (Kd.R_types HO168.1 BK158.1 (by decide)) (fun _ hk => hk.2) (.slice Ao37 y166.length co37)) (fun _ hk => hk.2) (.slice Ao39 y172.length co39)) (fun _ hk => hk.1.2)⟩, ⟨by (with_reducible repeat (first | apply Kd.R_alloc | apply Kd.R_drewN | apply Kd.R_drew)); exact Kd.R_mono (Kd.R_far (p := ⟨gb158, 1, none⟩) (Kd.R_far (p := ⟨gb158, 0, none⟩) (Kd.R_types HO174.1 BK158.1 (by decide)) (fun _ hk => hk.2) (.slice Ao37 y166.length co37)) (fun _ hk => hk.2) (.slice Ao39 y172.length co39)) (fun _ hk => hk.1.2.1)⟩, ⟨by (with_reducible repeat (first | refine blk_drewN ?_ _ | refine blk_drew ?_ | refine blk_alloc ?_ _)); refine blk_far ?_ NB155_158.1 _; (with_reducible repeat (first | refine blk_drewN ?_ _ | refine blk_drew ?_ | refine blk_alloc ?_ _)); refine blk_far ?_ NB155_158.1 _; (with_reducible repeat (first | refine blk_drewN ?_ _ | refine blk_drew ?_ | refine blk_alloc ?_ _)); exact BK155.1⟩, ⟨by (with_reducible repeat (first | refine blk_drewN ?_ _ | refine blk_drew ?_ | refine blk_alloc ?_ _)); refine blk_far ?_ NB156_158.1 _; (with_reducible repeat (first | refine blk_drewN ?_ _ | refine blk_drew ?_ | refine blk_alloc ?_ _)); refine blk_far ?_ NB156_158.1 _; (with_reducible repeat (first | refine blk_drewN ?_ _ | refine blk_drew ?_ | refine blk_alloc ?_ _)); exact BK156.1⟩, ⟨by (with_reducible repeat (first | refine blk_drewN ?_ _ | refine blk_drew ?_ | refine blk_alloc ?_ _)); refine blk_put (cs := #[.slice Ao37 y166.length co37, .slice Ao26 x159001_1.length co26]) ?_ 1 _ rfl; (with_reducible repeat (first | refine blk_drewN ?_ _ | refine blk_drew ?_ | refine blk_alloc ?_ _)); refine blk_put (cs := #[.slice Ao25 x159000_1.length co25, .slice Ao26 x159001_1.length co26]) ?_ 0 _ rfl; (with_reducible repeat (first | refine blk_drewN ?_ _ | refine blk_drew ?_ | refine blk_alloc ?_ _)); exact BK158.1⟩, HEL, ⟨by repeat (first | (with_reducible first | exact HB.1 | apply below_alloc | apply pw_below_drewN | apply below_drew1 | refine below_set ?_ GE155.1 | refine below_set ?_ GE156.1 | refine below_set ?_ GE158.1) | exact HB.1)⟩⟩
         ·rw [if_neg c21] at H
          exact absurd H (by simp)
        ·rw [if_neg c20] at H
         exact absurd H (by simp)
       ·rw [if_neg c18] at H
        exact absurd H (by simp)
      ·rw [if_neg c17] at H
       exact absurd H (by simp)
     ·rw [if_neg c16] at H
      exact absurd H (by simp)
    ·rw [if_neg c15] at H
     have c15b0 : decide (x19_1 < (l0_0.length : Int)) = false := decide_eq_false c15
     clear c15
     replace H := Option.bind_eq_some_iff.mp H
     obtain ⟨t175, A410, H⟩ := H
     replace H : (if t175 = true then (some (x159000_1, x159001_1, true)) else (some (([] : List Int), ([] : List Int), false))) = some (r1, r2, r3) := H
     have A41 := Aside0.mk A410
     clear A410
     by_cases c42 : t175 = true
     ·subst c42
      have H1 : (some (x159000_1, x159001_1, true)) = some (r1, r2, r3) := by rw [if_pos rfl] at H; exact H
      clear H
      have H := H1
      clear H1
      simp only [Option.some.injEq, Prod.mk.injEq] at H
      obtain ⟨rfl, rfl, rfl⟩ := H
      have hnb43 := NB158_155.1
      have hnc43 := NB155_158.1
      have hnb44 := NB158_156.1
      have hnc44 := NB156_158.1
      have hcz45_0 : wr.cell? ⟨gb158, 0, none⟩ = some (u159000) := (blk_cell BK158.1 0).trans rfl
      have hcz45_1 : wr.cell? ⟨gb158, 1, none⟩ = some (u159001) := (blk_cell BK158.1 1).trans rfl
      have hfz45_0 := blk_frozen BK158.1 0
      have hfz45_1 := blk_frozen BK158.1 1
      obtain ⟨Ao46, co46, eo46⟩ := Kd.R_slice Q159_0.1
      subst eo46
      obtain ⟨Ao47, co47, eo47⟩ := Kd.R_slice Q159_1.1
      subst eo47
      go_wp2_with (first | ((with_reducible refine gate_callee (f := 48) rfl ?_); refine goesL_ (some 49) rfl rfl Try.func48 (by kernel_rfl) rfl #[.agg #[.slice Ao46 x159000_1.length co46, .slice Ao47 x159001_1.length co47]] rfl (by (try simp only [List.map_toArray, List.map_cons, List.map_nil]); first | done | rfl | (simp only [List.length_drop, List.length_take]; rfl)) ?_; (with_reducible refine (impl_AreGloves.calls k1 _ _ x159000_1 _ _ x159001_1 true _ ?side1 ?side2 ?side3 ?side4 A41.1).mono ?_); (case side1 => repeat (first | exact (Kd.R_reads' Q159_0.1).2.2 | (with_reducible refine Kd.C_alloc ?_ _) | (with_reducible refine Kd.C_drewN ?_ _) | (with_reducible refine Kd.C_drew ?_))); (case side2 => exact (Kd.R_reads' Q159_0.1).2.1); (case side3 => repeat (first | exact (Kd.R_reads' Q159_1.1).2.2 | (with_reducible refine Kd.C_alloc ?_ _) | (with_reducible refine Kd.C_drewN ?_ _) | (with_reducible refine Kd.C_drew ?_))); (case side4 => exact (Kd.R_reads' Q159_1.1).2.1); rintro e w48 ⟨rfl, hb⟩; refine ⟨_, rfl, ?_⟩; have n0_ := Aside0.mk (Kd.R_below (by (with_reducible repeat (first | apply Kd.R_alloc | apply Kd.R_drewN | apply Kd.R_drew)); exact Q159_0.1) hb); have n1_ := Aside0.mk (Kd.R_below (by (with_reducible repeat (first | apply Kd.R_alloc | apply Kd.R_drewN | apply Kd.R_drew)); exact Q159_1.1) hb); have n2_ := Aside0.mk (blk_below (g := gb155) (o := .cells #[.slice A0_0 l0_0.length c0_0, .slice A0_1 l0_1.length c0_1] 28 (0, 0)) (by (with_reducible repeat (first | refine blk_drewN ?_ _ | refine blk_drew ?_ | refine blk_alloc ?_ _)); exact BK155.1) hb); have n3_ := Aside0.mk (blk_below (g := gb156) (o := .cells #[.slice none 0 0, .slice none 0 0] 28 (0, 0)) (by (with_reducible repeat (first | refine blk_drewN ?_ _ | refine blk_drew ?_ | refine blk_alloc ?_ _)); exact BK156.1) hb); have n4_ := Aside0.mk (blk_below (g := gb158) (o := .cells #[.slice Ao46 x159000_1.length co46, .slice Ao47 x159001_1.length co47] 28 (0, 0)) (by (with_reducible repeat (first | refine blk_drewN ?_ _ | refine blk_drew ?_ | refine blk_alloc ?_ _)); exact BK158.1) hb); have n5_ := Aside0.mk (below_step (by repeat (first | (with_reducible first | exact HB.1 | apply below_alloc | apply pw_below_drewN | apply below_drew1 | refine below_set ?_ GE155.1 | refine below_set ?_ GE156.1 | refine below_set ?_ GE158.1) | exact HB.1)) hb); clear Q159_0; clear Q159_1; clear BK155; clear BK156; clear BK158; clear HB; have Q159_0 := n0_; have Q159_1 := n1_; have BK155 := n2_; have BK156 := n3_; have BK158 := n4_; have HB := n5_; clear n0_ n1_ n2_ n3_ n4_ n5_; (try clear hb); (try clear hb2); (try clear hk); (try clear hi); have hcz49_0 : w48.cell? ⟨gb158, 0, none⟩ = some (.slice Ao46 x159000_1.length co46) := (blk_cell BK158.1 0).trans rfl; have hcz49_1 : w48.cell? ⟨gb158, 1, none⟩ = some (.slice Ao47 x159001_1.length co47) := (blk_cell BK158.1 1).trans rfl; have hfz49_0 := blk_frozen BK158.1 0; have hfz49_1 := blk_frozen BK158.1 1; have hnb50 := NB156_155.1; have hnc50 := NB155_156.1; have hcz51_0 : w48.cell? ⟨gb156, 0, none⟩ = some (.slice none 0 0) := (blk_cell BK156.1 0).trans rfl; have hcz51_1 : w48.cell? ⟨gb156, 1, none⟩ = some (.slice none 0 0) := (blk_cell BK156.1 1).trans rfl; have hfz51_0 := blk_frozen BK156.1 0; have hfz51_1 := blk_frozen BK156.1 1))
      refine bodyPost_ret (results_ct rfl _ _ gb156 28 #[.slice Ao46 x159000_1.length co46, .slice Ao47 x159001_1.length co47] (0, 0) _ rfl (by (with_reducible repeat (first | refine blk_drewN ?_ _ | refine blk_drew ?_ | refine blk_alloc ?_ _)); refine blk_put (cs := #[.slice Ao46 x159000_1.length co46, .slice none 0 0]) ?_ 1 _ rfl; (with_reducible repeat (first | refine blk_drewN ?_ _ | refine blk_drew ?_ | refine blk_alloc ?_ _)); refine blk_put (cs := #[.slice none 0 0, .slice none 0 0]) ?_ 0 _ rfl; (with_reducible repeat (first | refine blk_drewN ?_ _ | refine blk_drew ?_ | refine blk_alloc ?_ _)); exact BK156.1) Try.underlying28 rfl (by kernel_rfl)) rfl ?_
      exact ⟨w, ⟨_, HEL.1⟩, _, _, by first | rfl | (simp [errW_none, errW_some] <;> rfl) | (simp [Go.IntWalk.i64_left]; done) | (simp [*, errW_none, errW_some] <;> rfl), by (with_reducible repeat (first | apply Kd.R_alloc | apply Kd.R_drewN | apply Kd.R_drew)); exact Kd.R_mono (Kd.R_far (p := ⟨gb156, 1, none⟩) (Kd.R_far (p := ⟨gb156, 0, none⟩) (Kd.R_types Q159_0.1 BK156.1 (by decide)) (fun _ hk => hk.2) (.slice Ao46 x159000_1.length co46)) (fun _ hk => hk.2) (.slice Ao47 x159001_1.length co47)) (fun _ hk => hk.1), by (with_reducible repeat (first | apply Kd.R_alloc | apply Kd.R_drewN | apply Kd.R_drew)); exact Kd.R_mono (Kd.R_far (p := ⟨gb156, 1, none⟩) (Kd.R_far (p := ⟨gb156, 0, none⟩) (Kd.R_types Q159_1.1 BK156.1 (by decide)) (fun _ hk => hk.2) (.slice Ao46 x159000_1.length co46)) (fun _ hk => hk.2) (.slice Ao47 x159001_1.length co47)) (fun _ hk => hk.1), by repeat (first | (with_reducible first | exact HB.1 | apply below_alloc | apply pw_below_drewN | apply below_drew1 | refine below_set ?_ GE155.1 | refine below_set ?_ GE156.1 | refine below_set ?_ GE158.1) | exact HB.1)⟩
     ·replace c42 := Bool.eq_false_iff.mpr c42
      subst c42
      have H1 : (some (([] : List Int), ([] : List Int), false)) = some (r1, r2, r3) := by rw [if_neg (show ¬ (false = true) by decide)] at H; exact H
      clear H
      have H := H1
      clear H1
      simp only [Option.some.injEq, Prod.mk.injEq] at H
      obtain ⟨rfl, rfl, rfl⟩ := H
      have hnb52 := NB158_155.1
      have hnc52 := NB155_158.1
      have hnb53 := NB158_156.1
      have hnc53 := NB156_158.1
      have hcz54_0 : wr.cell? ⟨gb158, 0, none⟩ = some (u159000) := (blk_cell BK158.1 0).trans rfl
      have hcz54_1 : wr.cell? ⟨gb158, 1, none⟩ = some (u159001) := (blk_cell BK158.1 1).trans rfl
      have hfz54_0 := blk_frozen BK158.1 0
      have hfz54_1 := blk_frozen BK158.1 1
      obtain ⟨Ao55, co55, eo55⟩ := Kd.R_slice Q159_0.1
      subst eo55
      obtain ⟨Ao56, co56, eo56⟩ := Kd.R_slice Q159_1.1
      subst eo56
      go_wp2_with (first | ((with_reducible refine gate_callee (f := 48) rfl ?_); refine goesL_ (some 49) rfl rfl Try.func48 (by kernel_rfl) rfl #[.agg #[.slice Ao55 x159000_1.length co55, .slice Ao56 x159001_1.length co56]] rfl (by (try simp only [List.map_toArray, List.map_cons, List.map_nil]); first | done | rfl | (simp only [List.length_drop, List.length_take]; rfl)) ?_; (with_reducible refine (impl_AreGloves.calls k1 _ _ x159000_1 _ _ x159001_1 false _ ?side1 ?side2 ?side3 ?side4 A41.1).mono ?_); (case side1 => repeat (first | exact (Kd.R_reads' Q159_0.1).2.2 | (with_reducible refine Kd.C_alloc ?_ _) | (with_reducible refine Kd.C_drewN ?_ _) | (with_reducible refine Kd.C_drew ?_))); (case side2 => exact (Kd.R_reads' Q159_0.1).2.1); (case side3 => repeat (first | exact (Kd.R_reads' Q159_1.1).2.2 | (with_reducible refine Kd.C_alloc ?_ _) | (with_reducible refine Kd.C_drewN ?_ _) | (with_reducible refine Kd.C_drew ?_))); (case side4 => exact (Kd.R_reads' Q159_1.1).2.1); rintro e w57 ⟨rfl, hb⟩; refine ⟨_, rfl, ?_⟩; have n0_ := Aside0.mk (Kd.R_below (by (with_reducible repeat (first | apply Kd.R_alloc | apply Kd.R_drewN | apply Kd.R_drew)); exact Q159_0.1) hb); have n1_ := Aside0.mk (Kd.R_below (by (with_reducible repeat (first | apply Kd.R_alloc | apply Kd.R_drewN | apply Kd.R_drew)); exact Q159_1.1) hb); have n2_ := Aside0.mk (blk_below (g := gb155) (o := .cells #[.slice A0_0 l0_0.length c0_0, .slice A0_1 l0_1.length c0_1] 28 (0, 0)) (by (with_reducible repeat (first | refine blk_drewN ?_ _ | refine blk_drew ?_ | refine blk_alloc ?_ _)); exact BK155.1) hb); have n3_ := Aside0.mk (blk_below (g := gb156) (o := .cells #[.slice none 0 0, .slice none 0 0] 28 (0, 0)) (by (with_reducible repeat (first | refine blk_drewN ?_ _ | refine blk_drew ?_ | refine blk_alloc ?_ _)); exact BK156.1) hb); have n4_ := Aside0.mk (blk_below (g := gb158) (o := .cells #[.slice Ao55 x159000_1.length co55, .slice Ao56 x159001_1.length co56] 28 (0, 0)) (by (with_reducible repeat (first | refine blk_drewN ?_ _ | refine blk_drew ?_ | refine blk_alloc ?_ _)); exact BK158.1) hb); have n5_ := Aside0.mk (below_step (by repeat (first | (with_reducible first | exact HB.1 | apply below_alloc | apply pw_below_drewN | apply below_drew1 | refine below_set ?_ GE155.1 | refine below_set ?_ GE156.1 | refine below_set ?_ GE158.1) | exact HB.1)) hb); clear Q159_0; clear Q159_1; clear BK155; clear BK156; clear BK158; clear HB; have Q159_0 := n0_; have Q159_1 := n1_; have BK155 := n2_; have BK156 := n3_; have BK158 := n4_; have HB := n5_; clear n0_ n1_ n2_ n3_ n4_ n5_; (try clear hb); (try clear hb2); (try clear hk); (try clear hi); have hnb58 := NB156_155.1; have hnc58 := NB155_156.1; have hcz59_0 : w57.cell? ⟨gb156, 0, none⟩ = some (.slice none 0 0) := (blk_cell BK156.1 0).trans rfl; have hcz59_1 : w57.cell? ⟨gb156, 1, none⟩ = some (.slice none 0 0) := (blk_cell BK156.1 1).trans rfl; have hfz59_0 := blk_frozen BK156.1 0; have hfz59_1 := blk_frozen BK156.1 1))
      refine bodyPost_ret (results_ct rfl _ _ gb156 28 #[.slice none 0 0, .slice none 0 0] (0, 0) _ rfl (by (with_reducible repeat (first | refine blk_drewN ?_ _ | refine blk_drew ?_ | refine blk_alloc ?_ _)); refine blk_put (cs := #[.slice none 0 0, .slice none 0 0]) ?_ 1 _ rfl; (with_reducible repeat (first | refine blk_drewN ?_ _ | refine blk_drew ?_ | refine blk_alloc ?_ _)); refine blk_put (cs := #[.slice none 0 0, .slice none 0 0]) ?_ 0 _ rfl; (with_reducible repeat (first | refine blk_drewN ?_ _ | refine blk_drew ?_ | refine blk_alloc ?_ _)); exact BK156.1) Try.underlying28 rfl (by kernel_rfl)) rfl ?_
      exact ⟨w, ⟨_, HEL.1⟩, _, _, by first | rfl | (simp [errW_none, errW_some] <;> rfl) | (simp [Go.IntWalk.i64_left]; done) | (simp [*, errW_none, errW_some] <;> rfl), by first | exact Kd.R_nil _ _ _ _ _ | exact Kd.N_nil _ _ _ _ _ | exact Kd.V_nil _ _ _ _ _ | exact Kd.Q_nil _ _ _ _ _ | exact Kd.S_nil _ _ _ _ _, by first | exact Kd.R_nil _ _ _ _ _ | exact Kd.N_nil _ _ _ _ _ | exact Kd.V_nil _ _ _ _ _ | exact Kd.Q_nil _ _ _ _ _ | exact Kd.S_nil _ _ _ _ _, by repeat (first | (with_reducible first | exact HB.1 | apply below_alloc | apply pw_below_drewN | apply below_drew1 | refine below_set ?_ GE155.1 | refine below_set ?_ GE156.1 | refine below_set ?_ GE158.1) | exact HB.1)⟩
 ·replace c4 := Bool.eq_false_iff.mpr c4
  subst c4
  have H1 : (some (([] : List Int), ([] : List Int), false)) = some (r1, r2, r3) := by rw [if_neg (show ¬ (false = true) by decide)] at H; exact H
  clear H
  have H := H1
  clear H1
  simp only [Option.some.injEq, Prod.mk.injEq] at H
  obtain ⟨rfl, rfl, rfl⟩ := H
  go_enter Try.func63, Try.ntmps63
  go_wp2_with (first | ((with_reducible refine gate_dst (N := 2) rfl ?_); refine box_event ?hg (N := 2) ?hd (cs := #[.slice A0_0 l0_0.length c0_0, .slice A0_1 l0_1.length c0_1]) (t := 28) ?hr ?_; (case hd => rfl); (case hg => rfl); (case hr => first | (go_simp; done) | (go_simp; rfl)); intro gb155 hg w60 hbox hb; have n0_ := Aside0.mk (below_step (by repeat (first | (with_reducible first | exact HB.1 | apply below_alloc | apply pw_below_drewN | apply below_drew1) | exact HB.1)) hb); have n1_ := Aside0.mk (hbox); have n2_ := Aside0.mk ((by rw [hg]; exact (below_size (by repeat (first | (with_reducible first | exact HB.1 | apply below_alloc | apply pw_below_drewN | apply below_drew1) | exact HB.1))) : w.heap.size ≤ gb155)); have n3_ := Aside0.mk ((by rw [hg]; exact (below_size (by repeat (first | (with_reducible first | exact HB.1 | apply below_alloc | apply pw_below_drewN | apply below_drew1) | exact HB.1))) : w.heap.size ≤ gb155)); clear HB; have HB := n0_; have BK155 := n1_; have GW155 := n2_; have GE155 := n3_; clear n0_ n1_ n2_ n3_; clear hb hbox hg) | ((with_reducible refine gate_dst (N := 4) rfl ?_); refine box_event ?hg (N := 4) ?hd (cs := #[.slice none 0 0, .slice none 0 0]) (t := 28) ?hr ?_; (case hd => rfl); (case hg => rfl); (case hr => first | (go_simp; done) | (go_simp; rfl)); intro gb156 hg w61 hbox hb; have n0_ := Aside0.mk (blk_below (g := gb155) (o := .cells #[.slice A0_0 l0_0.length c0_0, .slice A0_1 l0_1.length c0_1] 28 (0, 0)) (by (with_reducible repeat (first | refine blk_drewN ?_ _ | refine blk_drew ?_ | refine blk_alloc ?_ _)); exact BK155.1) hb); have n1_ := Aside0.mk (below_step (by repeat (first | (with_reducible first | exact HB.1 | apply below_alloc | apply pw_below_drewN | apply below_drew1 | refine below_set ?_ GE155.1) | exact HB.1)) hb); have n2_ := Aside0.mk (hbox); have n3_ := Aside0.mk ((by rw [hg]; exact (below_size (by repeat (first | (with_reducible first | exact HB.1 | apply below_alloc | apply pw_below_drewN | apply below_drew1 | refine below_set ?_ GE155.1) | exact HB.1))) : w.heap.size ≤ gb156)); have n4_ := Aside0.mk ((by rw [hg]; exact (below_size (by repeat (first | (with_reducible first | exact HB.1 | apply below_alloc | apply pw_below_drewN | apply below_drew1 | refine below_set ?_ GE155.1) | exact HB.1))) : w.heap.size ≤ gb156)); have n5_ := Aside0.mk ((by rw [hg]; exact Nat.ne_of_lt (blk_lt (g := gb155) (o := .cells #[.slice A0_0 l0_0.length c0_0, .slice A0_1 l0_1.length c0_1] 28 (0, 0)) (by (with_reducible repeat (first | refine blk_drewN ?_ _ | refine blk_drew ?_ | refine blk_alloc ?_ _)); exact BK155.1)) : gb155 ≠ gb156)); have n6_ := Aside0.mk ((by rw [hg]; exact Nat.ne_of_gt (blk_lt (g := gb155) (o := .cells #[.slice A0_0 l0_0.length c0_0, .slice A0_1 l0_1.length c0_1] 28 (0, 0)) (by (with_reducible repeat (first | refine blk_drewN ?_ _ | refine blk_drew ?_ | refine blk_alloc ?_ _)); exact BK155.1)) : gb156 ≠ gb155)); clear BK155; clear HB; have BK155 := n0_; have HB := n1_; have BK156 := n2_; have GW156 := n3_; have GE156 := n4_; have NB155_156 := n5_; have NB156_155 := n6_; clear n0_ n1_ n2_ n3_ n4_ n5_ n6_; clear hb hbox hg; have hnb62 := NB155_156.1; have hnc62 := NB156_155.1; have hcz63_0 : w61.cell? ⟨gb155, 0, none⟩ = some (.slice A0_0 l0_0.length c0_0) := (blk_cell BK155.1 0).trans rfl; have hcz63_1 : w61.cell? ⟨gb155, 1, none⟩ = some (.slice A0_1 l0_1.length c0_1) := (blk_cell BK155.1 1).trans rfl; have hfz63_0 := blk_frozen BK155.1 0; have hfz63_1 := blk_frozen BK155.1 1) | ((with_reducible refine gate_callee (f := 48) rfl ?_); refine goesL_ (some 12) rfl rfl Try.func48 (by kernel_rfl) rfl #[.agg #[.slice A0_0 l0_0.length c0_0, .slice A0_1 l0_1.length c0_1]] rfl (by (try simp only [List.map_toArray, List.map_cons, List.map_nil]); first | done | rfl | (simp only [List.length_drop, List.length_take]; rfl)) ?_; (with_reducible refine (impl_AreGloves.calls k _ _ l0_0 _ _ l0_1 false _ ?side1 ?side2 ?side3 ?side4 A3.1).mono ?_); (case side1 => repeat (first | exact (Kd.C_below HR0_0.1 HB.1) | (with_reducible refine Kd.C_alloc ?_ _) | (with_reducible refine Kd.C_drewN ?_ _) | (with_reducible refine Kd.C_drew ?_))); (case side2 => exact HC0_0.1); (case side3 => repeat (first | exact (Kd.C_below HR0_1.1 HB.1) | (with_reducible refine Kd.C_alloc ?_ _) | (with_reducible refine Kd.C_drewN ?_ _) | (with_reducible refine Kd.C_drew ?_))); (case side4 => exact HC0_1.1); rintro e w64 ⟨rfl, hb⟩; refine ⟨_, rfl, ?_⟩; have n0_ := Aside0.mk (blk_below (g := gb155) (o := .cells #[.slice A0_0 l0_0.length c0_0, .slice A0_1 l0_1.length c0_1] 28 (0, 0)) (by (with_reducible repeat (first | refine blk_drewN ?_ _ | refine blk_drew ?_ | refine blk_alloc ?_ _)); exact BK155.1) hb); have n1_ := Aside0.mk (blk_below (g := gb156) (o := .cells #[.slice none 0 0, .slice none 0 0] 28 (0, 0)) (by (with_reducible repeat (first | refine blk_drewN ?_ _ | refine blk_drew ?_ | refine blk_alloc ?_ _)); exact BK156.1) hb); have n2_ := Aside0.mk (below_step (by repeat (first | (with_reducible first | exact HB.1 | apply below_alloc | apply pw_below_drewN | apply below_drew1 | refine below_set ?_ GE155.1 | refine below_set ?_ GE156.1) | exact HB.1)) hb); clear BK155; clear BK156; clear HB; have BK155 := n0_; have BK156 := n1_; have HB := n2_; clear n0_ n1_ n2_; (try clear hb); (try clear hb2); (try clear hk); (try clear hi); have hcz65_0 : w64.cell? ⟨gb156, 0, none⟩ = some (.slice none 0 0) := (blk_cell BK156.1 0).trans rfl; have hcz65_1 : w64.cell? ⟨gb156, 1, none⟩ = some (.slice none 0 0) := (blk_cell BK156.1 1).trans rfl; have hfz65_0 := blk_frozen BK156.1 0; have hfz65_1 := blk_frozen BK156.1 1))
  refine bodyPost_ret (results_ct rfl _ _ gb156 28 #[.slice none 0 0, .slice none 0 0] (0, 0) _ rfl (by (with_reducible repeat (first | refine blk_drewN ?_ _ | refine blk_drew ?_ | refine blk_alloc ?_ _)); refine blk_put (cs := #[.slice none 0 0, .slice none 0 0]) ?_ 1 _ rfl; (with_reducible repeat (first | refine blk_drewN ?_ _ | refine blk_drew ?_ | refine blk_alloc ?_ _)); refine blk_put (cs := #[.slice none 0 0, .slice none 0 0]) ?_ 0 _ rfl; (with_reducible repeat (first | refine blk_drewN ?_ _ | refine blk_drew ?_ | refine blk_alloc ?_ _)); exact BK156.1) Try.underlying28 rfl (by kernel_rfl)) rfl ?_
  exact ⟨w, ⟨_, HEL.1⟩, _, _, by first | rfl | (simp [errW_none, errW_some] <;> rfl) | (simp [Go.IntWalk.i64_left]; done) | (simp [*, errW_none, errW_some] <;> rfl), by first | exact Kd.R_nil _ _ _ _ _ | exact Kd.N_nil _ _ _ _ _ | exact Kd.V_nil _ _ _ _ _ | exact Kd.Q_nil _ _ _ _ _ | exact Kd.S_nil _ _ _ _ _, by first | exact Kd.R_nil _ _ _ _ _ | exact Kd.N_nil _ _ _ _ _ | exact Kd.V_nil _ _ _ _ _ | exact Kd.Q_nil _ _ _ _ _ | exact Kd.S_nil _ _ _ _ _, by repeat (first | (with_reducible first | exact HB.1 | apply below_alloc | apply pw_below_drewN | apply below_drew1 | refine below_set ?_ GE155.1 | refine below_set ?_ GE156.1) | exact HB.1)⟩
/-- What JoinGloves' closure does: s: the number that it counts in. -/
def clJ (bl br : List Int) (s x y : Int) : Option (Int × Int × Int) :=
  if 0 ≤ wrap64 (s + 1) then (if wrap64 (s + 1) < (bl.length : Int) then (if wrap64 (s + 1) < (br.length : Int) then some (wrap64 (x + rd bl (wrap64 (s + 1))), wrap64 (y + rd br (wrap64 (s + 1))), wrap64 (s + 1)) else none) else none) else none
def StJ (w00 : World) (bb : Nat) (vL vR : Value) (W : World) : Prop := Below w00.heap.size w00 W ∧ W.heap[bb]? = some (.cells #[vL, vR] 28 (0, 0))
set_option maxHeartbeats 4000000 in
set_option maxRecDepth 100000 in
theorem clJ_calls (w00 : World) (B0 : Option Addr) (d0 : Nat) (bl : List Int) (B1 : Option Addr) (d1 : Nat) (br : List Int) (hb0 : Kd.C (Kd.int .i64) w00 B0 bl.length bl) (hb1 : Kd.C (Kd.int .i64) w00 B1 br.length br) (bi bb : Nat) (hbi : w00.heap.size ≤ bi) (hne : bb ≠ bi)
    (s x y a b s' : Int) (W : World) (hcl : clJ bl br s x y = some (a, b, s')) (hc : W.cell? ⟨bi, 0, none⟩ = some (.int .i64 s)) (hf : W.frozen? ⟨bi, 0, none⟩ = false) (hSt : StJ w00 bb (.slice B0 bl.length d0) (.slice B1 br.length d1) W) :
    Calls Try.prog 75 #[.int .i64 x, .int .i64 y, .pointer (some ⟨bi, 0, none⟩), .pointer (some ⟨bb, 0, none⟩)] W fun e W' => e = .returned (.tuple #[.int .i64 a, .int .i64 b]) ∧ ∃ nd, W' = (W.setCell ⟨bi, 0, none⟩ (.int .i64 s')).drewN nd := by
  unfold clJ at hcl
  obtain ⟨i, hi⟩ : ∃ i, wrap64 (s + 1) = i := ⟨_, rfl⟩
  rw [hi] at hcl
  by_cases h0 : 0 ≤ i
  · by_cases h1 : i < (bl.length : Int)
    · by_cases h2 : i < (br.length : Int)
      · rw [if_pos h0, if_pos h1, if_pos h2] at hcl
        simp only [Option.some.injEq, Prod.mk.injEq] at hcl
        obtain ⟨rfl, rfl, rfl⟩ := hcl
        obtain ⟨hB, hK⟩ := hSt
        have hB1 : Below w00.heap.size w00 (W.setCell ⟨bi, 0, none⟩ (.int .i64 i)) := Below.setCell hB hbi _
        have hK1 : (W.setCell ⟨bi, 0, none⟩ (.int .i64 i)).heap[bb]? = some (.cells #[.slice B0 bl.length d0, .slice B1 br.length d1] 28 (0, 0)) := (heap_setCell_other _ _ _ _ hne).trans hK
        obtain ⟨ad0, rfl, hx0⟩ := Kd.at_int (Kd.C_below hb0 hB1) i h0 h1
        obtain ⟨ad1, rfl, hx1⟩ := Kd.at_int (Kd.C_below hb1 hB1) i h0 h2
        have k0 : (W.setCell ⟨bi, 0, none⟩ (.int .i64 i)).cell? ⟨bb, 0, none⟩ = some (.slice (some ad0) bl.length d0) := (blk_cell hK1 0).trans rfl
        have k1 : (W.setCell ⟨bi, 0, none⟩ (.int .i64 i)).cell? ⟨bb, 1, none⟩ = some (.slice (some ad1) br.length d1) := (blk_cell hK1 1).trans rfl
        have hu28 := Try.underlying28
        clear hB hK hB1 hK1 hb0 hb1
        go_enter Try.func75, Try.ntmps75
        go_wp2
        go_region
        go_wp2
        go_ret2
        exact ⟨rfl, 1, rfl⟩
      · rw [if_pos h0, if_pos h1, if_neg h2] at hcl; exact absurd hcl (by simp)
    · rw [if_pos h0, if_neg h1] at hcl; exact absurd hcl (by simp)
  · rw [if_neg h0] at hcl; exact absurd hcl (by simp)
def impl_JoinGloves.f (k : Nat) (l0_0 : List Int) (l0_1 : List Int) (l1_0 : List Int) (l1_1 : List Int) : Option (List Int × List Int × Bool) :=
  (impl_AreGloves.f k l0_0 l0_1).bind fun t => if t = true then ((impl_AreGloves.f k l1_0 l1_1).bind fun u => if u = true then (if (l0_0.length : Int) = (l1_0.length : Int) then madeJ.f (clJ l1_0 l1_1) k (-1) l0_0 l0_1 else some ([], [], false)) else some ([], [], false)) else some ([], [], false)
theorem impl_JoinGloves.mono : ∀ a0 a1 a2 a3 k, LeO (impl_JoinGloves.f k a0 a1 a2 a3) (impl_JoinGloves.f (k + 1) a0 a1 a2 a3) := by
  intro a0 a1 a2 a3 k
  unfold impl_JoinGloves.f
  exact LeO.bind (impl_AreGloves.mono _ _ _) (fun _ => LeO.ite (LeO.bind (impl_AreGloves.mono _ _ _) (fun _ => LeO.ite (LeO.ite (madeJ.mono _ _ _ _ _) (LeO.refl _)) (LeO.refl _))) (LeO.refl _))
set_option maxHeartbeats 4000000 in
set_option maxRecDepth 100000 in
theorem xJoin1 (A0_0 : Option Addr) (c0_0 : Nat) (l0_0 : List Int) (A0_1 : Option Addr) (c0_1 : Nat) (l0_1 : List Int) (A1_0 : Option Addr) (c1_0 : Nat) (l1_0 : List Int) (A1_1 : Option Addr) (c1_1 : Nat) (l1_1 : List Int) (w : World) (ha : ∀ W, Below w.heap.size w W → Calls Try.prog 48 #[.agg #[.slice A0_0 l0_0.length c0_0, .slice A0_1 l0_1.length c0_1]] W fun e w' => e = .returned (.bool false) ∧ Below W.heap.size W w') :
    Calls Try.prog 37 #[.agg #[.slice A0_0 l0_0.length c0_0, .slice A0_1 l0_1.length c0_1], .agg #[.slice A1_0 l1_0.length c1_0, .slice A1_1 l1_1.length c1_1]] w fun e w' => ∃ v0_ v1_ : Value, e = .returned (.tuple #[.agg #[v0_, v1_], .bool false]) ∧ Kd.R (Kd.int .i64) 3 w' w.heap.size (fun k_ => some k_ ≠ (v1_ : Value).ownBlock) v0_ [] ∧ Kd.R (Kd.int .i64) 3 w' w.heap.size (fun k_ => some k_ ≠ (v0_ : Value).ownBlock) v1_ [] ∧ Below w.heap.size w w' := by
  have hu28 := Try.underlying28
  have HAa := Aside0.mk ha
  clear ha
  go_enter Try.func37, Try.ntmps37
  go_wp2_with (first
      | ((with_reducible refine gate_dst (N := 2) rfl ?_); refine box_event ?hg (N := 2) ?hd (cs := #[.slice A0_0 l0_0.length c0_0, .slice A0_1 l0_1.length c0_1]) (t := 28) ?hr ?_; (case hd => rfl); (case hg => rfl); (case hr => first | (go_simp; done) | (go_simp; rfl)); intro g2 hg w2 hk hb; have HG2 := Aside0.mk hg; have HK2 := Aside0.mk hk; have HB2 := Aside0.mk hb; clear hg hk hb)
      | ((with_reducible refine gate_dst (N := 3) rfl ?_); refine box_event ?hg (N := 3) ?hd (cs := #[.slice A1_0 l1_0.length c1_0, .slice A1_1 l1_1.length c1_1]) (t := 28) ?hr ?_; (case hd => rfl); (case hg => rfl); (case hr => first | (go_simp; done) | (go_simp; rfl)); intro g3 hg w3 hk hb; have HG3 := Aside0.mk hg; have HK3 := Aside0.mk hk; have HK2b := Aside0.mk (blk_below HK2.out hb); have HB3 := Aside0.mk (below_step HB2.out hb); have L23 : Aside0 (g2 < g3) := ⟨by { rw [hg]; exact blk_lt HK2.out }⟩; clear hg hk hb)
      | ((with_reducible refine gate_dst (N := 4) rfl ?_); refine box_event ?hg (N := 4) ?hd (cs := #[.slice none 0 0, .slice none 0 0]) (t := 28) ?hr ?_; (case hd => rfl); (case hg => rfl); (case hr => first | (go_simp; done) | (go_simp; rfl)); intro g4 hg w4 hk hb; have HG4 := Aside0.mk hg; have HK4 := Aside0.mk hk; have HK2c := Aside0.mk (blk_below HK2b.out hb); have HK3c := Aside0.mk (blk_below HK3.out hb); have HB4 := Aside0.mk (below_step HB3.out hb); have G4 : Aside0 (w.heap.size ≤ g4) := ⟨by { rw [hg]; exact below_size HB3.out }⟩; have L34 : Aside0 (g3 < g4) := ⟨by { rw [hg]; exact blk_lt HK3.out }⟩; have p0 : w4.cell? ⟨g2, 0, none⟩ = some (.slice A0_0 l0_0.length c0_0) := (blk_cell HK2c.out 0).trans rfl; have p1 : w4.cell? ⟨g2, 1, none⟩ = some (.slice A0_1 l0_1.length c0_1) := (blk_cell HK2c.out 1).trans rfl; clear hg hk hb)
      | (go_at_call 48; (with_reducible refine (HAa.out w4 HB4.out).mono ?_); rintro e w5 ⟨rfl, hb⟩; have J2 := Aside0.mk (blk_below HK2c.out hb); have J3 := Aside0.mk (blk_below HK3c.out hb); have J4 := Aside0.mk (blk_below HK4.out hb); have HB5 := Aside0.mk (below_step HB4.out hb); have q0 : w5.cell? ⟨g3, 0, none⟩ = some (.slice A1_0 l1_0.length c1_0) := (blk_cell J3.out 0).trans rfl; have q1 : w5.cell? ⟨g3, 1, none⟩ = some (.slice A1_1 l1_1.length c1_1) := (blk_cell J3.out 1).trans rfl; obtain ⟨z1, z2, z3, z4⟩ := rest_nil J4.out; clear hb))
  refine bodyPost_ret (results_ct rfl _ _ g4 28 #[.slice none 0 0, .slice none 0 0] (0, 0) _ rfl (by refine blk_put (cs := #[.slice none 0 0, .slice none 0 0]) ?_ 1 _ rfl; refine blk_put (cs := #[.slice none 0 0, .slice none 0 0]) ?_ 0 _ rfl; exact J4.out) Try.underlying28 rfl (by kernel_rfl)) rfl ?_
  exact ⟨_, _, rfl, Kd.R_nil _ _ _ _ _, Kd.R_nil _ _ _ _ _, below_set (below_set HB5.out G4.out) G4.out⟩
set_option maxHeartbeats 4000000 in
set_option maxRecDepth 100000 in
theorem xJoin2 (A0_0 : Option Addr) (c0_0 : Nat) (l0_0 : List Int) (A0_1 : Option Addr) (c0_1 : Nat) (l0_1 : List Int) (A1_0 : Option Addr) (c1_0 : Nat) (l1_0 : List Int) (A1_1 : Option Addr) (c1_1 : Nat) (l1_1 : List Int) (w : World) (ha : ∀ W, Below w.heap.size w W → Calls Try.prog 48 #[.agg #[.slice A0_0 l0_0.length c0_0, .slice A0_1 l0_1.length c0_1]] W fun e w' => e = .returned (.bool true) ∧ Below W.heap.size W w') (hb_ : ∀ W, Below w.heap.size w W → Calls Try.prog 48 #[.agg #[.slice A1_0 l1_0.length c1_0, .slice A1_1 l1_1.length c1_1]] W fun e w' => e = .returned (.bool false) ∧ Below W.heap.size W w') :
    Calls Try.prog 37 #[.agg #[.slice A0_0 l0_0.length c0_0, .slice A0_1 l0_1.length c0_1], .agg #[.slice A1_0 l1_0.length c1_0, .slice A1_1 l1_1.length c1_1]] w fun e w' => ∃ v0_ v1_ : Value, e = .returned (.tuple #[.agg #[v0_, v1_], .bool false]) ∧ Kd.R (Kd.int .i64) 3 w' w.heap.size (fun k_ => some k_ ≠ (v1_ : Value).ownBlock) v0_ [] ∧ Kd.R (Kd.int .i64) 3 w' w.heap.size (fun k_ => some k_ ≠ (v0_ : Value).ownBlock) v1_ [] ∧ Below w.heap.size w w' := by
  have hu28 := Try.underlying28
  have HAa := Aside0.mk ha
  have HAb := Aside0.mk hb_
  clear ha hb_
  go_enter Try.func37, Try.ntmps37
  go_wp2_with (first
      | ((with_reducible refine gate_dst (N := 2) rfl ?_); refine box_event ?hg (N := 2) ?hd (cs := #[.slice A0_0 l0_0.length c0_0, .slice A0_1 l0_1.length c0_1]) (t := 28) ?hr ?_; (case hd => rfl); (case hg => rfl); (case hr => first | (go_simp; done) | (go_simp; rfl)); intro g2 hg w2 hk hb; have HG2 := Aside0.mk hg; have HK2 := Aside0.mk hk; have HB2 := Aside0.mk hb; clear hg hk hb)
      | ((with_reducible refine gate_dst (N := 3) rfl ?_); refine box_event ?hg (N := 3) ?hd (cs := #[.slice A1_0 l1_0.length c1_0, .slice A1_1 l1_1.length c1_1]) (t := 28) ?hr ?_; (case hd => rfl); (case hg => rfl); (case hr => first | (go_simp; done) | (go_simp; rfl)); intro g3 hg w3 hk hb; have HG3 := Aside0.mk hg; have HK3 := Aside0.mk hk; have HK2b := Aside0.mk (blk_below HK2.out hb); have HB3 := Aside0.mk (below_step HB2.out hb); have L23 : Aside0 (g2 < g3) := ⟨by { rw [hg]; exact blk_lt HK2.out }⟩; clear hg hk hb)
      | ((with_reducible refine gate_dst (N := 4) rfl ?_); refine box_event ?hg (N := 4) ?hd (cs := #[.slice none 0 0, .slice none 0 0]) (t := 28) ?hr ?_; (case hd => rfl); (case hg => rfl); (case hr => first | (go_simp; done) | (go_simp; rfl)); intro g4 hg w4 hk hb; have HG4 := Aside0.mk hg; have HK4 := Aside0.mk hk; have HK2c := Aside0.mk (blk_below HK2b.out hb); have HK3c := Aside0.mk (blk_below HK3.out hb); have HB4 := Aside0.mk (below_step HB3.out hb); have G4 : Aside0 (w.heap.size ≤ g4) := ⟨by { rw [hg]; exact below_size HB3.out }⟩; have L34 : Aside0 (g3 < g4) := ⟨by { rw [hg]; exact blk_lt HK3.out }⟩; have p0 : w4.cell? ⟨g2, 0, none⟩ = some (.slice A0_0 l0_0.length c0_0) := (blk_cell HK2c.out 0).trans rfl; have p1 : w4.cell? ⟨g2, 1, none⟩ = some (.slice A0_1 l0_1.length c0_1) := (blk_cell HK2c.out 1).trans rfl; clear hg hk hb)
      | (go_at_call 48; (with_reducible refine (HAa.out w4 HB4.out).mono ?_); rintro e w5 ⟨rfl, hb⟩; have J2 := Aside0.mk (blk_below HK2c.out hb); have J3 := Aside0.mk (blk_below HK3c.out hb); have J4 := Aside0.mk (blk_below HK4.out hb); have HB5 := Aside0.mk (below_step HB4.out hb); have q0 : w5.cell? ⟨g3, 0, none⟩ = some (.slice A1_0 l1_0.length c1_0) := (blk_cell J3.out 0).trans rfl; have q1 : w5.cell? ⟨g3, 1, none⟩ = some (.slice A1_1 l1_1.length c1_1) := (blk_cell J3.out 1).trans rfl; clear hb)
      | (go_at_call 48; (with_reducible refine (HAb.out w5 HB5.out).mono ?_); rintro e w6 ⟨rfl, hb⟩; have I2 := Aside0.mk (blk_below J2.out hb); have I3 := Aside0.mk (blk_below J3.out hb); have I4 := Aside0.mk (blk_below J4.out hb); have HB6 := Aside0.mk (below_step HB5.out hb); have m0 : w6.cell? ⟨g2, 0, none⟩ = some (.slice A0_0 l0_0.length c0_0) := (blk_cell I2.out 0).trans rfl; have m1 : w6.cell? ⟨g2, 1, none⟩ = some (.slice A0_1 l0_1.length c0_1) := (blk_cell I2.out 1).trans rfl; have n0 : w6.cell? ⟨g3, 0, none⟩ = some (.slice A1_0 l1_0.length c1_0) := (blk_cell I3.out 0).trans rfl; have n1 : w6.cell? ⟨g3, 1, none⟩ = some (.slice A1_1 l1_1.length c1_1) := (blk_cell I3.out 1).trans rfl; obtain ⟨z1, z2, z3, z4⟩ := rest_nil I4.out; clear hb))
  refine bodyPost_ret (results_ct rfl _ _ g4 28 #[.slice none 0 0, .slice none 0 0] (0, 0) _ rfl (by refine blk_put (cs := #[.slice none 0 0, .slice none 0 0]) ?_ 1 _ rfl; refine blk_put (cs := #[.slice none 0 0, .slice none 0 0]) ?_ 0 _ rfl; exact I4.out) Try.underlying28 rfl (by kernel_rfl)) rfl ?_
  exact ⟨_, _, rfl, Kd.R_nil _ _ _ _ _, Kd.R_nil _ _ _ _ _, below_set (below_set HB6.out G4.out) G4.out⟩
set_option maxHeartbeats 4000000 in
set_option maxRecDepth 100000 in
theorem xJoin3 (A0_0 : Option Addr) (c0_0 : Nat) (l0_0 : List Int) (A0_1 : Option Addr) (c0_1 : Nat) (l0_1 : List Int) (A1_0 : Option Addr) (c1_0 : Nat) (l1_0 : List Int) (A1_1 : Option Addr) (c1_1 : Nat) (l1_1 : List Int) (w : World) (ha : ∀ W, Below w.heap.size w W → Calls Try.prog 48 #[.agg #[.slice A0_0 l0_0.length c0_0, .slice A0_1 l0_1.length c0_1]] W fun e w' => e = .returned (.bool true) ∧ Below W.heap.size W w') (hb_ : ∀ W, Below w.heap.size w W → Calls Try.prog 48 #[.agg #[.slice A1_0 l1_0.length c1_0, .slice A1_1 l1_1.length c1_1]] W fun e w' => e = .returned (.bool true) ∧ Below W.heap.size W w') (hne : ¬ ((l0_0.length : Int) = (l1_0.length : Int))) :
    Calls Try.prog 37 #[.agg #[.slice A0_0 l0_0.length c0_0, .slice A0_1 l0_1.length c0_1], .agg #[.slice A1_0 l1_0.length c1_0, .slice A1_1 l1_1.length c1_1]] w fun e w' => ∃ v0_ v1_ : Value, e = .returned (.tuple #[.agg #[v0_, v1_], .bool false]) ∧ Kd.R (Kd.int .i64) 3 w' w.heap.size (fun k_ => some k_ ≠ (v1_ : Value).ownBlock) v0_ [] ∧ Kd.R (Kd.int .i64) 3 w' w.heap.size (fun k_ => some k_ ≠ (v0_ : Value).ownBlock) v1_ [] ∧ Below w.heap.size w w' := by
  have hu28 := Try.underlying28
  have hne2 : ((l0_0.length : Int) == (l1_0.length : Int)) = false := by simpa using hne
  have HAa := Aside0.mk ha
  have HAb := Aside0.mk hb_
  clear ha hb_
  go_enter Try.func37, Try.ntmps37
  go_wp2_with (first
      | ((with_reducible refine gate_dst (N := 2) rfl ?_); refine box_event ?hg (N := 2) ?hd (cs := #[.slice A0_0 l0_0.length c0_0, .slice A0_1 l0_1.length c0_1]) (t := 28) ?hr ?_; (case hd => rfl); (case hg => rfl); (case hr => first | (go_simp; done) | (go_simp; rfl)); intro g2 hg w2 hk hb; have HG2 := Aside0.mk hg; have HK2 := Aside0.mk hk; have HB2 := Aside0.mk hb; clear hg hk hb)
      | ((with_reducible refine gate_dst (N := 3) rfl ?_); refine box_event ?hg (N := 3) ?hd (cs := #[.slice A1_0 l1_0.length c1_0, .slice A1_1 l1_1.length c1_1]) (t := 28) ?hr ?_; (case hd => rfl); (case hg => rfl); (case hr => first | (go_simp; done) | (go_simp; rfl)); intro g3 hg w3 hk hb; have HG3 := Aside0.mk hg; have HK3 := Aside0.mk hk; have HK2b := Aside0.mk (blk_below HK2.out hb); have HB3 := Aside0.mk (below_step HB2.out hb); have L23 : Aside0 (g2 < g3) := ⟨by { rw [hg]; exact blk_lt HK2.out }⟩; clear hg hk hb)
      | ((with_reducible refine gate_dst (N := 4) rfl ?_); refine box_event ?hg (N := 4) ?hd (cs := #[.slice none 0 0, .slice none 0 0]) (t := 28) ?hr ?_; (case hd => rfl); (case hg => rfl); (case hr => first | (go_simp; done) | (go_simp; rfl)); intro g4 hg w4 hk hb; have HG4 := Aside0.mk hg; have HK4 := Aside0.mk hk; have HK2c := Aside0.mk (blk_below HK2b.out hb); have HK3c := Aside0.mk (blk_below HK3.out hb); have HB4 := Aside0.mk (below_step HB3.out hb); have G4 : Aside0 (w.heap.size ≤ g4) := ⟨by { rw [hg]; exact below_size HB3.out }⟩; have L34 : Aside0 (g3 < g4) := ⟨by { rw [hg]; exact blk_lt HK3.out }⟩; have p0 : w4.cell? ⟨g2, 0, none⟩ = some (.slice A0_0 l0_0.length c0_0) := (blk_cell HK2c.out 0).trans rfl; have p1 : w4.cell? ⟨g2, 1, none⟩ = some (.slice A0_1 l0_1.length c0_1) := (blk_cell HK2c.out 1).trans rfl; clear hg hk hb)
      | (go_at_call 48; (with_reducible refine (HAa.out w4 HB4.out).mono ?_); rintro e w5 ⟨rfl, hb⟩; have J2 := Aside0.mk (blk_below HK2c.out hb); have J3 := Aside0.mk (blk_below HK3c.out hb); have J4 := Aside0.mk (blk_below HK4.out hb); have HB5 := Aside0.mk (below_step HB4.out hb); have q0 : w5.cell? ⟨g3, 0, none⟩ = some (.slice A1_0 l1_0.length c1_0) := (blk_cell J3.out 0).trans rfl; have q1 : w5.cell? ⟨g3, 1, none⟩ = some (.slice A1_1 l1_1.length c1_1) := (blk_cell J3.out 1).trans rfl; clear hb)
      | (go_at_call 48; (with_reducible refine (HAb.out w5 HB5.out).mono ?_); rintro e w6 ⟨rfl, hb⟩; have I2 := Aside0.mk (blk_below J2.out hb); have I3 := Aside0.mk (blk_below J3.out hb); have I4 := Aside0.mk (blk_below J4.out hb); have HB6 := Aside0.mk (below_step HB5.out hb); have m0 : w6.cell? ⟨g2, 0, none⟩ = some (.slice A0_0 l0_0.length c0_0) := (blk_cell I2.out 0).trans rfl; have m1 : w6.cell? ⟨g2, 1, none⟩ = some (.slice A0_1 l0_1.length c0_1) := (blk_cell I2.out 1).trans rfl; have n0 : w6.cell? ⟨g3, 0, none⟩ = some (.slice A1_0 l1_0.length c1_0) := (blk_cell I3.out 0).trans rfl; have n1 : w6.cell? ⟨g3, 1, none⟩ = some (.slice A1_1 l1_1.length c1_1) := (blk_cell I3.out 1).trans rfl; obtain ⟨z1, z2, z3, z4⟩ := rest_nil I4.out; clear hb))
  refine bodyPost_ret (results_ct rfl _ _ g4 28 #[.slice none 0 0, .slice none 0 0] (0, 0) _ rfl (by refine blk_put (cs := #[.slice none 0 0, .slice none 0 0]) ?_ 1 _ rfl; refine blk_put (cs := #[.slice none 0 0, .slice none 0 0]) ?_ 0 _ rfl; exact I4.out) Try.underlying28 rfl (by kernel_rfl)) rfl ?_
  exact ⟨_, _, rfl, Kd.R_nil _ _ _ _ _, Kd.R_nil _ _ _ _ _, below_set (below_set HB6.out G4.out) G4.out⟩
set_option maxHeartbeats 4000000 in
set_option maxRecDepth 100000 in
theorem xJoin4 (k : Nat) (A0_0 : Option Addr) (c0_0 : Nat) (l0_0 : List Int) (A0_1 : Option Addr) (c0_1 : Nat) (l0_1 : List Int) (A1_0 : Option Addr) (c1_0 : Nat) (l1_0 : List Int) (A1_1 : Option Addr) (c1_1 : Nat) (l1_1 : List Int) (r1 : List Int) (r2 : List Int) (r3 : Bool) (w : World) (hr0_0 : Kd.C (Kd.int .i64) w A0_0 l0_0.length l0_0) (hc0_0 : l0_0.length ≤ c0_0) (hr0_1 : Kd.C (Kd.int .i64) w A0_1 l0_1.length l0_1) (hc0_1 : l0_1.length ≤ c0_1) (hr1_0 : Kd.C (Kd.int .i64) w A1_0 l1_0.length l1_0) (hr1_1 : Kd.C (Kd.int .i64) w A1_1 l1_1.length l1_1) (ha : ∀ W, Below w.heap.size w W → Calls Try.prog 48 #[.agg #[.slice A0_0 l0_0.length c0_0, .slice A0_1 l0_1.length c0_1]] W fun e w' => e = .returned (.bool true) ∧ Below W.heap.size W w') (hb_ : ∀ W, Below w.heap.size w W → Calls Try.prog 48 #[.agg #[.slice A1_0 l1_0.length c1_0, .slice A1_1 l1_1.length c1_1]] W fun e w' => e = .returned (.bool true) ∧ Below W.heap.size W w') (he : (l0_0.length : Int) = (l1_0.length : Int)) (h : madeJ.f (clJ l1_0 l1_1) k (-1) l0_0 l0_1 = some (r1, r2, r3)) :
    Calls Try.prog 37 #[.agg #[.slice A0_0 l0_0.length c0_0, .slice A0_1 l0_1.length c0_1], .agg #[.slice A1_0 l1_0.length c1_0, .slice A1_1 l1_1.length c1_1]] w fun e w' => ∃ v0_ v1_ : Value, e = .returned (.tuple #[.agg #[v0_, v1_], .bool r3]) ∧ Kd.R (Kd.int .i64) 3 w' w.heap.size (fun k_ => some k_ ≠ (v1_ : Value).ownBlock) v0_ r1 ∧ Kd.R (Kd.int .i64) 3 w' w.heap.size (fun k_ => some k_ ≠ (v0_ : Value).ownBlock) v1_ r2 ∧ Below w.heap.size w w' := by
  have hu28 := Try.underlying28
  have hmf : ∀ (fn : Fn) (first cap : Array Value) (w : World), (Instr.makeFunc fn first cap).run Try.prog w = .ok (.func fn first cap) w := fun _ _ _ _ => rfl
  have he2 : ((l0_0.length : Int) == (l1_0.length : Int)) = true := by simpa using he
  have HST : ∀ W, Below w.heap.size w W → Kd.C (Kd.int .i64) W A0_0 l0_0.length l0_0 ∧ Kd.C (Kd.int .i64) W A0_1 l0_1.length l0_1 := fun W hW => ⟨Kd.C_below hr0_0 hW, Kd.C_below hr0_1 hW⟩
  have HST := Aside0.mk HST
  have HR1_0 := Aside0.mk hr1_0
  have HR1_1 := Aside0.mk hr1_1
  have HH := Aside0.mk h
  have HAa := Aside0.mk ha
  have HAb := Aside0.mk hb_
  clear ha hb_ h hr0_0 hr0_1 hr1_0 hr1_1
  go_enter Try.func37, Try.ntmps37
  go_wp2_with (first
      | ((with_reducible refine gate_dst (N := 2) rfl ?_); refine box_event ?hg (N := 2) ?hd (cs := #[.slice A0_0 l0_0.length c0_0, .slice A0_1 l0_1.length c0_1]) (t := 28) ?hr ?_; (case hd => rfl); (case hg => rfl); (case hr => first | (go_simp; done) | (go_simp; rfl)); intro g2 hg w2 hk hb; have HG2 := Aside0.mk hg; have HK2 := Aside0.mk hk; have HB2 := Aside0.mk hb; clear hg hk hb)
      | ((with_reducible refine gate_dst (N := 3) rfl ?_); refine box_event ?hg (N := 3) ?hd (cs := #[.slice A1_0 l1_0.length c1_0, .slice A1_1 l1_1.length c1_1]) (t := 28) ?hr ?_; (case hd => rfl); (case hg => rfl); (case hr => first | (go_simp; done) | (go_simp; rfl)); intro g3 hg w3 hk hb; have HG3 := Aside0.mk hg; have HK3 := Aside0.mk hk; have HK2b := Aside0.mk (blk_below HK2.out hb); have HB3 := Aside0.mk (below_step HB2.out hb); have L23 : Aside0 (g2 < g3) := ⟨by { rw [hg]; exact blk_lt HK2.out }⟩; clear hg hk hb)
      | ((with_reducible refine gate_dst (N := 4) rfl ?_); refine box_event ?hg (N := 4) ?hd (cs := #[.slice none 0 0, .slice none 0 0]) (t := 28) ?hr ?_; (case hd => rfl); (case hg => rfl); (case hr => first | (go_simp; done) | (go_simp; rfl)); intro g4 hg w4 hk hb; have HG4 := Aside0.mk hg; have HK4 := Aside0.mk hk; have HK2c := Aside0.mk (blk_below HK2b.out hb); have HK3c := Aside0.mk (blk_below HK3.out hb); have HB4 := Aside0.mk (below_step HB3.out hb); have G4 : Aside0 (w.heap.size ≤ g4) := ⟨by { rw [hg]; exact below_size HB3.out }⟩; have L34 : Aside0 (g3 < g4) := ⟨by { rw [hg]; exact blk_lt HK3.out }⟩; have p0 : w4.cell? ⟨g2, 0, none⟩ = some (.slice A0_0 l0_0.length c0_0) := (blk_cell HK2c.out 0).trans rfl; have p1 : w4.cell? ⟨g2, 1, none⟩ = some (.slice A0_1 l0_1.length c0_1) := (blk_cell HK2c.out 1).trans rfl; clear hg hk hb)
      | (go_at_call 48; (with_reducible refine (HAa.out w4 HB4.out).mono ?_); rintro e w5 ⟨rfl, hb⟩; have J2 := Aside0.mk (blk_below HK2c.out hb); have J3 := Aside0.mk (blk_below HK3c.out hb); have J4 := Aside0.mk (blk_below HK4.out hb); have HB5 := Aside0.mk (below_step HB4.out hb); have q0 : w5.cell? ⟨g3, 0, none⟩ = some (.slice A1_0 l1_0.length c1_0) := (blk_cell J3.out 0).trans rfl; have q1 : w5.cell? ⟨g3, 1, none⟩ = some (.slice A1_1 l1_1.length c1_1) := (blk_cell J3.out 1).trans rfl; clear hb)
      | (go_at_call 48; (with_reducible refine (HAb.out w5 HB5.out).mono ?_); rintro e w6 ⟨rfl, hb⟩; have I2 := Aside0.mk (blk_below J2.out hb); have I3 := Aside0.mk (blk_below J3.out hb); have I4 := Aside0.mk (blk_below J4.out hb); have HB6 := Aside0.mk (below_step HB5.out hb); have m0 : w6.cell? ⟨g2, 0, none⟩ = some (.slice A0_0 l0_0.length c0_0) := (blk_cell I2.out 0).trans rfl; have m1 : w6.cell? ⟨g2, 1, none⟩ = some (.slice A0_1 l0_1.length c0_1) := (blk_cell I2.out 1).trans rfl; have n0 : w6.cell? ⟨g3, 0, none⟩ = some (.slice A1_0 l1_0.length c1_0) := (blk_cell I3.out 0).trans rfl; have n1 : w6.cell? ⟨g3, 1, none⟩ = some (.slice A1_1 l1_1.length c1_1) := (blk_cell I3.out 1).trans rfl; clear hb)
      | ((with_reducible refine gate_dst (N := 6) rfl ?_); refine box_event ?hg (N := 6) ?hd (cs := #[.int .i64 0]) (t := 3) ?hr ?_; (case hd => rfl); (case hg => rfl); (case hr => first | (go_simp; done) | (go_simp; rfl)); intro g6 hg w7 hk hb; have HK6 := Aside0.mk hk; have HB7 := Aside0.mk (below_step HB6.out hb); have l26 : g2 < g6 := by { rw [hg]; exact blk_lt I2.out }; have l36 : g3 < g6 := by { rw [hg]; exact blk_lt I3.out }; have l46 : g4 < g6 := by { rw [hg]; exact blk_lt I4.out }; have y1 := (blk_cell hk 0).trans rfl; have y2 := blk_frozen hk 0; have K2 := (heap_setCell_other w7 ⟨g6, 0, none⟩ g2 (.int .i64 (-1)) (Nat.ne_of_lt l26)).trans (blk_below I2.out hb); have K3 := Aside0.mk ((heap_setCell_other w7 ⟨g6, 0, none⟩ g3 (.int .i64 (-1)) (Nat.ne_of_lt l36)).trans (blk_below I3.out hb)); have K4 := Aside0.mk ((heap_setCell_other w7 ⟨g6, 0, none⟩ g4 (.int .i64 (-1)) (Nat.ne_of_lt l46)).trans (blk_below I4.out hb)); have u0 : (w7.setCell ⟨g6, 0, none⟩ (.int .i64 (-1))).cell? ⟨g2, 0, none⟩ = some (.slice A0_0 l0_0.length c0_0) := (blk_cell K2 0).trans rfl; have u1 : (w7.setCell ⟨g6, 0, none⟩ (.int .i64 (-1))).cell? ⟨g2, 1, none⟩ = some (.slice A0_1 l0_1.length c0_1) := (blk_cell K2 1).trans rfl; have L36 := Aside0.mk l36; have L46 := Aside0.mk l46; have L6 := Aside0.mk (blk_lt hk); have G6 : Aside0 (w.heap.size ≤ g6) := ⟨by { rw [hg]; exact below_size HB6.out }⟩; clear hg hk hb K2 l26 l36 l46)
      | (go_at_call 63; refine (madeJ.calls k A0_0 c0_0 l0_0 A0_1 c0_1 l0_1 r1 r2 r3 (w7.setCell ⟨g6, 0, none⟩ (.int .i64 (-1))) (clJ l1_0 l1_1) (-1) g6 g3 (StJ w g3 (.slice A1_0 l1_0.length c1_0) (.slice A1_1 l1_1.length c1_1)) ⟨below_set HB7.out G6.out, K3.out⟩ (fun W W' hW hs => ⟨below_same hW.1 hs (by rw [World.size_setCell]; exact below_size HB7.out) G6.out, (hs.block g3 (by rw [World.size_setCell]; exact Nat.lt_trans L36.out L6.out) (Nat.ne_of_lt L36.out)).trans hW.2⟩) (fun W hW => (HST.out W hW.1).1) hc0_0 (fun W hW => (HST.out W hW.1).2) hc0_1 (set_cell HK6.out).1 (fun s x y a b s' W h1 h2 h3 h4 => clJ_calls w A1_0 c1_0 l1_0 A1_1 c1_1 l1_1 HR1_0.out HR1_1.out g6 g3 G6.out (Nat.ne_of_lt L36.out) s x y a b s' W h1 h2 h3 h4) (set_cell HK6.out).2 HH.out).mono ?_; rintro e w9 ⟨wq, ⟨st, hEL⟩, v0, v1, rfl, hR0, hR1, hBq⟩; have l4q : g4 < wq.heap.size := by { rw [hEL.size, World.size_setCell]; exact Nat.lt_trans L46.out L6.out }; have K9 := (hBq.block g4 l4q).trans ((hEL.same.block g4 (by rw [← hEL.size]; exact l4q) (Nat.ne_of_lt L46.out)).trans K4.out); obtain ⟨z1, z2, z3, z4⟩ := rest_nil K9; have lwq : w.heap.size ≤ wq.heap.size := hEL.st.1.size; have HB9 := Aside0.mk (below_step hEL.st.1 hBq); obtain ⟨Ao0, co0, rfl⟩ := Kd.R_slice hR0; obtain ⟨Ao1, co1, rfl⟩ := Kd.R_slice hR1; have HR0 := Aside0.mk hR0; have HR1 := Aside0.mk hR1; have HK9 := Aside0.mk K9; clear hR0 hR1 K9 hBq hEL))
  refine bodyPost_ret (results_ct rfl _ _ g4 28 #[.slice Ao0 r1.length co0, .slice Ao1 r2.length co1] (0, 0) _ rfl (by refine blk_put (cs := #[.slice Ao0 r1.length co0, .slice none 0 0]) ?_ 1 _ rfl; refine blk_put (cs := #[.slice none 0 0, .slice none 0 0]) ?_ 0 _ rfl; exact HK9.out) Try.underlying28 rfl (by kernel_rfl)) rfl ?_
  exact ⟨_, _, rfl, Kd.R_lower (R_farb (R_farb HR0.out l4q) l4q) lwq, Kd.R_lower (R_farb (R_farb HR1.out l4q) l4q) lwq, below_set (below_set HB9.out G4.out) G4.out⟩
theorem impl_JoinGloves.calls (k : Nat) (A0_0 : Option Addr) (c0_0 : Nat) (l0_0 : List Int) (A0_1 : Option Addr) (c0_1 : Nat) (l0_1 : List Int) (A1_0 : Option Addr) (c1_0 : Nat) (l1_0 : List Int) (A1_1 : Option Addr) (c1_1 : Nat) (l1_1 : List Int) (r1 : List Int) (r2 : List Int) (r3 : Bool) (w : World) (hr0_0 : Kd.C (Kd.int .i64) w A0_0 l0_0.length l0_0) (hc0_0 : l0_0.length ≤ c0_0) (hr0_1 : Kd.C (Kd.int .i64) w A0_1 l0_1.length l0_1) (hc0_1 : l0_1.length ≤ c0_1) (hr1_0 : Kd.C (Kd.int .i64) w A1_0 l1_0.length l1_0) (hc1_0 : l1_0.length ≤ c1_0) (hr1_1 : Kd.C (Kd.int .i64) w A1_1 l1_1.length l1_1) (hc1_1 : l1_1.length ≤ c1_1) (h : impl_JoinGloves.f k l0_0 l0_1 l1_0 l1_1 = some (r1, r2, r3)) :
    Calls Try.prog 37 #[.agg #[.slice A0_0 l0_0.length c0_0, .slice A0_1 l0_1.length c0_1], .agg #[.slice A1_0 l1_0.length c1_0, .slice A1_1 l1_1.length c1_1]] w fun e w' => ∃ v0_ v1_ : Value, e = .returned (.tuple #[.agg #[v0_, v1_], .bool r3]) ∧ Kd.R (Kd.int .i64) 3 w' w.heap.size (fun k_ => some k_ ≠ (v1_ : Value).ownBlock) v0_ r1 ∧ Kd.R (Kd.int .i64) 3 w' w.heap.size (fun k_ => some k_ ≠ (v0_ : Value).ownBlock) v1_ r2 ∧ Below w.heap.size w w' := by
  unfold impl_JoinGloves.f at h
  obtain ⟨t, h1, h⟩ := Option.bind_eq_some_iff.mp h
  have ha : ∀ W, Below w.heap.size w W → Calls Try.prog 48 #[.agg #[.slice A0_0 l0_0.length c0_0, .slice A0_1 l0_1.length c0_1]] W fun e w' => e = .returned (.bool t) ∧ Below W.heap.size W w' := fun W hW => impl_AreGloves.calls k A0_0 c0_0 l0_0 A0_1 c0_1 l0_1 t W (Kd.C_below hr0_0 hW) hc0_0 (Kd.C_below hr0_1 hW) hc0_1 h1
  cases t with
  | false =>
    rw [if_neg (by decide)] at h
    simp only [Option.some.injEq, Prod.mk.injEq] at h
    obtain ⟨rfl, rfl, rfl⟩ := h
    exact xJoin1 A0_0 c0_0 l0_0 A0_1 c0_1 l0_1 A1_0 c1_0 l1_0 A1_1 c1_1 l1_1 w ha
  | true =>
    rw [if_pos rfl] at h
    obtain ⟨u, h2, h⟩ := Option.bind_eq_some_iff.mp h
    have hb : ∀ W, Below w.heap.size w W → Calls Try.prog 48 #[.agg #[.slice A1_0 l1_0.length c1_0, .slice A1_1 l1_1.length c1_1]] W fun e w' => e = .returned (.bool u) ∧ Below W.heap.size W w' := fun W hW => impl_AreGloves.calls k A1_0 c1_0 l1_0 A1_1 c1_1 l1_1 u W (Kd.C_below hr1_0 hW) hc1_0 (Kd.C_below hr1_1 hW) hc1_1 h2
    cases u with
    | false =>
      rw [if_neg (by decide)] at h
      simp only [Option.some.injEq, Prod.mk.injEq] at h
      obtain ⟨rfl, rfl, rfl⟩ := h
      exact xJoin2 A0_0 c0_0 l0_0 A0_1 c0_1 l0_1 A1_0 c1_0 l1_0 A1_1 c1_1 l1_1 w ha hb
    | true =>
      rw [if_pos rfl] at h
      by_cases he : (l0_0.length : Int) = (l1_0.length : Int)
      · rw [if_pos he] at h
        exact xJoin4 k A0_0 c0_0 l0_0 A0_1 c0_1 l0_1 A1_0 c1_0 l1_0 A1_1 c1_1 l1_1 r1 r2 r3 w hr0_0 hc0_0 hr0_1 hc0_1 hr1_0 hr1_1 ha hb he h
      · rw [if_neg he] at h
        simp only [Option.some.injEq, Prod.mk.injEq] at h
        obtain ⟨rfl, rfl, rfl⟩ := h
        exact xJoin3 A0_0 c0_0 l0_0 A0_1 c0_1 l0_1 A1_0 c1_0 l1_0 A1_1 c1_1 l1_1 w ha hb he



end Go.Proofs.Ytcnfhfjhpicpkaa.P
