/- The statement FnExactJoinGlovesSaid: the law FnExactJoinGloves of the given program answers true at every input that the statement speaks of. No condition beside the statement's own. -/
import Derived.Test.YtcnfhfjhpicpkaaRows
import Derived.Test.YtcnfhfjhpicpkaaQ5
import Derived.Test.YtcnfhfjhpicpkaaPureFnExactJoinGloves
import Derived.WalkKit
import Derived.ProofKit
import Derived.OpenShut
import Derived.ShutString
import Derived.ChangeOld
import Derived.Below
import Derived.SizedLaws
import Derived.Lib.SmallJoins
import Derived.Test.YtcnfhfjhpicpkaaWSized
namespace Go.Proofs.Ytcnfhfjhpicpkaa.fnExactJoinGloves
open Go.ChangeShapes Go.WideShapes Go.ChangeAt Go.RowKit
open Go.ChangeMaps (open_string shut_string)
set_option linter.unusedVariables false
theorem own : ownKnob Try.prog.godebug = none := by kernel_rfl
theorem laidOut : laidOutB Try.prog = true := by kernel_rfl
def IsRow (k : IntKind) (w : World) (a : Option Addr) (len cap : Nat) (zs : List Int) : Prop :=
  (a = none ∧ len = 0 ∧ cap = 0 ∧ zs = []) ∨
  ∃ x, a = some x ∧ len ≤ cap ∧ cap ≤ maxLen ∧ zs.length = cap ∧ (∀ i, i < zs.length → w.cell? (x.add i) = some (.int k (zs.getD i 0))) ∧ ∀ n ∈ zs, (Lit.int k n).wf = true
theorem sized_parts {H : Type} {P : Program} {ts : List TypeId} {ds : List (DataW H)} {j : Nat} {t : TypeId} {fs : Array Field} {parts : List (DataW H)} (hsz : (DataW.weightsEach P ts ds).all (· ≤ reachBytes) = true) (ht : ts[j]? = some t) (hd : ds[j]? = some (.agg parts)) (hu : P.underlying t = some (.struct fs)) :
    (DataW.weightsEach P (fs.toList.map (·.type)) parts).all (· ≤ reachBytes) = true := by
  refine List.all_eq_true.2 fun n hn => List.all_eq_true.1 hsz _ (DataW.weights_mem_each ht hd n ?_)
  simpa only [DataW.weights, hu] using hn
set_option maxRecDepth 100000 in
theorem lifted (os : Os) (started : os.Started) (H : Type) (enc : TypeId × Value → H) :
    ReturnsInHanded {} Try.checked os 11 .any (Rows.fnExactJoinGlovesSpec.pre6 enc Try.prog Try.f11 Rows.fnExactJoinGlovesRow.domain false) (Rows.fnExactJoinGlovesSpec.post enc Try.prog Try.f11 false true false false) := by
  refine returnsInHanded_of_change_sized (C := Try.checked) own started (by kernel_rfl) Try.func11
    (ChangeSpec.witness6 (enc := enc) (C := Try.checked) false ⟨#[], #[.agg #[.slice none 0 0, .slice none 0 0], .agg #[.slice none 0 0, .slice none 0 0]], []⟩ 8 (by kernel_rfl) (by kernel_rfl) (by kernel_rfl) (by kernel_rfl)) ?_
  intro W base args ds gs before hval0 hW hcnd hsz0 _
  have hsz : (DataW.weightsEach Try.prog (Try.f11.params.toList ++ Rows.fnExactJoinGlovesSpec.plain.varTypes Try.prog) (ds ++ gs)).all (· ≤ reachBytes) = true := hsz0
  have hval : ∀ (j : Nat) t v, Try.f11.params[j]? = some t → args[j]? = some v → Value.okWide Try.prog W .any base t v := hval0
  have hW' := hW
  obtain ⟨p, q, hA0, hV, rfl, hfz, hnd⟩ := hW
  have hA : DataW.TrodAll enc Try.prog W 0 (fun _ => true) true Try.f11.params.toList args.toList ds p := hA0
  rw [Try.params11] at hA hval hsz
  obtain ⟨v0, vs0, d0, ds0, p0, q0, hargs, rfl, rfl, h0, r0⟩ := trodAll_cons hA
  obtain ⟨v1, vs1, d1, ds1, p1, q1, rfl, rfl, rfl, h1, r1⟩ := trodAll_cons r0
  obtain ⟨rfl, rfl, rfl⟩ := trodAll_nil r1
  obtain rfl : args = #[v0, v1] := by cases args; simp_all
  obtain ⟨rfl, rfl⟩ := trodVars_none hV
  have k0 := h0
  have lt0 : ∀ x ∈ p0, x.block < W.heap.size := by obtain ⟨m, hm⟩ := k0; exact DataW.trod_lt m _ _ _ hm
  obtain ⟨e0_0, e0_1, r0_0, r0_1, n0, rfl, rfl, rfl, t0_0, t0_1⟩ := Go.Joins.open_agg2 Try.underlying24 (by kernel_rfl) (by kernel_rfl) (hval 0 24 v0 rfl rfl) h0
  have hs0 := sized_parts hsz (j := 0) (t := 24) rfl rfl Try.underlying24
  have u0_0 : DataW.trod enc Try.prog W 0 (fun _ => true) true n0 22 [e0_0] = some r0_0 := t0_0
  obtain ⟨a0_0, len0_0, cap0_0, hx0_0⟩ := Go.Joins.slice_form Try.underlying22 u0_0
  obtain rfl : e0_0 = .slice a0_0 len0_0 cap0_0 := by simpa using hx0_0
  obtain ⟨z0_0, w0_0⟩ : ∃ zs, IsRow .i64 W a0_0 len0_0 cap0_0 zs := by
    have hf := u0_0
    rcases open_ints Try.underlying22 Try.underlying3 (by kernel_rfl) hf with ⟨hcs, _⟩ | ⟨x, l, c, zs, hcs, _, hl, hm, hz, _, hcell, hwz⟩
    · simp at hcs
      obtain ⟨rfl, rfl, rfl⟩ := hcs
      exact ⟨[], .inl ⟨rfl, rfl, rfl, rfl⟩⟩
    · simp at hcs
      obtain ⟨rfl, rfl, rfl⟩ := hcs
      exact ⟨zs, .inr ⟨_, rfl, hl, hm, by simpa using hz, hcell, hwz⟩⟩
  have y0_0 : len0_0 * 8 ≤ 140737488351232 := Go.Proofs.YtcnfhfjhpicpkaaW.PrintWords.sized_ints hs0 (j := 0) (t := 22) rfl rfl Try.underlying22 Try.underlying3 (by kernel_rfl) (by kernel_rfl) ⟨n0, by simpa [Value.cells] using u0_0⟩
  have u0_1 : DataW.trod enc Try.prog W 0 (fun _ => true) true n0 22 [e0_1] = some r0_1 := t0_1
  obtain ⟨a0_1, len0_1, cap0_1, hx0_1⟩ := Go.Joins.slice_form Try.underlying22 u0_1
  obtain rfl : e0_1 = .slice a0_1 len0_1 cap0_1 := by simpa using hx0_1
  obtain ⟨z0_1, w0_1⟩ : ∃ zs, IsRow .i64 W a0_1 len0_1 cap0_1 zs := by
    have hf := u0_1
    rcases open_ints Try.underlying22 Try.underlying3 (by kernel_rfl) hf with ⟨hcs, _⟩ | ⟨x, l, c, zs, hcs, _, hl, hm, hz, _, hcell, hwz⟩
    · simp at hcs
      obtain ⟨rfl, rfl, rfl⟩ := hcs
      exact ⟨[], .inl ⟨rfl, rfl, rfl, rfl⟩⟩
    · simp at hcs
      obtain ⟨rfl, rfl, rfl⟩ := hcs
      exact ⟨zs, .inr ⟨_, rfl, hl, hm, by simpa using hz, hcell, hwz⟩⟩
  have y0_1 : len0_1 * 8 ≤ 140737488351232 := Go.Proofs.YtcnfhfjhpicpkaaW.PrintWords.sized_ints hs0 (j := 1) (t := 22) rfl rfl Try.underlying22 Try.underlying3 (by kernel_rfl) (by kernel_rfl) ⟨n0, by simpa [Value.cells] using u0_1⟩
  have k1 := h1
  have lt1 : ∀ x ∈ p1, x.block < W.heap.size := by obtain ⟨m, hm⟩ := k1; exact DataW.trod_lt m _ _ _ hm
  obtain ⟨e1_0, e1_1, r1_0, r1_1, n1, rfl, rfl, rfl, t1_0, t1_1⟩ := Go.Joins.open_agg2 Try.underlying24 (by kernel_rfl) (by kernel_rfl) (hval 1 24 v1 rfl rfl) h1
  have hs1 := sized_parts hsz (j := 1) (t := 24) rfl rfl Try.underlying24
  have u1_0 : DataW.trod enc Try.prog W 0 (fun _ => true) true n1 22 [e1_0] = some r1_0 := t1_0
  obtain ⟨a1_0, len1_0, cap1_0, hx1_0⟩ := Go.Joins.slice_form Try.underlying22 u1_0
  obtain rfl : e1_0 = .slice a1_0 len1_0 cap1_0 := by simpa using hx1_0
  obtain ⟨z1_0, w1_0⟩ : ∃ zs, IsRow .i64 W a1_0 len1_0 cap1_0 zs := by
    have hf := u1_0
    rcases open_ints Try.underlying22 Try.underlying3 (by kernel_rfl) hf with ⟨hcs, _⟩ | ⟨x, l, c, zs, hcs, _, hl, hm, hz, _, hcell, hwz⟩
    · simp at hcs
      obtain ⟨rfl, rfl, rfl⟩ := hcs
      exact ⟨[], .inl ⟨rfl, rfl, rfl, rfl⟩⟩
    · simp at hcs
      obtain ⟨rfl, rfl, rfl⟩ := hcs
      exact ⟨zs, .inr ⟨_, rfl, hl, hm, by simpa using hz, hcell, hwz⟩⟩
  have y1_0 : len1_0 * 8 ≤ 140737488351232 := Go.Proofs.YtcnfhfjhpicpkaaW.PrintWords.sized_ints hs1 (j := 0) (t := 22) rfl rfl Try.underlying22 Try.underlying3 (by kernel_rfl) (by kernel_rfl) ⟨n1, by simpa [Value.cells] using u1_0⟩
  have u1_1 : DataW.trod enc Try.prog W 0 (fun _ => true) true n1 22 [e1_1] = some r1_1 := t1_1
  obtain ⟨a1_1, len1_1, cap1_1, hx1_1⟩ := Go.Joins.slice_form Try.underlying22 u1_1
  obtain rfl : e1_1 = .slice a1_1 len1_1 cap1_1 := by simpa using hx1_1
  obtain ⟨z1_1, w1_1⟩ : ∃ zs, IsRow .i64 W a1_1 len1_1 cap1_1 zs := by
    have hf := u1_1
    rcases open_ints Try.underlying22 Try.underlying3 (by kernel_rfl) hf with ⟨hcs, _⟩ | ⟨x, l, c, zs, hcs, _, hl, hm, hz, _, hcell, hwz⟩
    · simp at hcs
      obtain ⟨rfl, rfl, rfl⟩ := hcs
      exact ⟨[], .inl ⟨rfl, rfl, rfl, rfl⟩⟩
    · simp at hcs
      obtain ⟨rfl, rfl, rfl⟩ := hcs
      exact ⟨zs, .inr ⟨_, rfl, hl, hm, by simpa using hz, hcell, hwz⟩⟩
  have y1_1 : len1_1 * 8 ≤ 140737488351232 := Go.Proofs.YtcnfhfjhpicpkaaW.PrintWords.sized_ints hs1 (j := 1) (t := 22) rfl rfl Try.underlying22 Try.underlying3 (by kernel_rfl) (by kernel_rfl) ⟨n1, by simpa [Value.cells] using u1_1⟩
  clear hA0 hval0 hsz0 hsz
  refine (P.laws_FnExactJoinGloves.walk Pure.FnExactJoinGloves a0_0 len0_0 cap0_0 z0_0 a0_1 len0_1 cap0_1 z0_1 a1_0 len1_0 cap1_0 z1_0 a1_1 len1_1 cap1_1 z1_1 W w0_0 y0_0 w0_1 y0_1 w1_0 y1_0 w1_1 y1_1).mono fun e W' ⟨he, bel⟩ => ?_
  subst he
  exact ⟨_, rfl, _, _, _, [], _, [], hW', trodAll_mk1 (shut_bool Try.underlying4 _), (trodAll_cons_mk (Below.trod laidOut (by kernel_rfl) (of_decide_eq_true (by kernel_rfl)) k0 bel lt0) (trodAll_cons_mk (Below.trod laidOut (by kernel_rfl) (of_decide_eq_true (by kernel_rfl)) k1 bel lt1) trodAll_mk0)), rfl, bel.frame _, fun h => by cases h⟩
theorem over : Rows.fnExactJoinGlovesRow.holds Try.pinned (OpenSpec.ofChange Rows.fnExactJoinGlovesSpec) :=
  OpenClaim.holds_of_wide 11 Try.f11 rfl rfl rfl rfl rfl rfl rfl ⟨rfl, rfl, rfl, rfl, rfl⟩ rfl rfl rfl rfl rfl (by kernel_rfl) Try.func11 (by kernel_rfl)
    (of_decide_eq_true (by kernel_rfl)) (by unfold Func.isWrapper; first | (rw [if_pos (by decide +kernel)]; kernel_rfl) | (rw [if_neg (by decide +kernel)]; exact ⟨rfl, rfl⟩))
    (fun os started H enc _ => lifted os started H enc)
theorem proved : Rows.FnExactJoinGlovesSaid := over
#print axioms proved
end Go.Proofs.Ytcnfhfjhpicpkaa.fnExactJoinGloves
namespace Go.Proofs.Ytcnfhfjhpicpkaa
/-- The row, under a short name, for the claim. -/
theorem fnExactJoinGloves_holds : Rows.FnExactJoinGlovesSaid := fnExactJoinGloves.proved
end Go.Proofs.Ytcnfhfjhpicpkaa
