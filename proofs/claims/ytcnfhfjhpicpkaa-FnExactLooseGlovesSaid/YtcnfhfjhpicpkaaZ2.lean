/- Plain lemmas over the printed functions of this seat. -/
import Derived.Test.YtcnfhfjhpicpkaaY1
import Derived.Test.YtcnfhfjhpicpkaaPx3
set_option linter.unusedVariables false
set_option linter.unusedSimpArgs false
namespace Go.Proofs.Ytcnfhfjhpicpkaa.Pure
open Go.RowKit Go.Proofs.Ytcnfhfjhpicpkaa.P Go.Proofs.YtcnfhfjhpicpkaaW.PrintWords Go.Proofs.YtcnfhfjhpicpkaaW.PrintLast Go.Proofs.YtcnfhfjhpicpkaaW.PrintMore

/-! ### lists made of two lists -/
theorem zw_len (f : Int → Int → Int) (l r : List Int) (h : r.length = l.length) : (List.zipWith f l r).length = l.length := by rw [List.length_zipWith]; omega
theorem zw_take (f : Int → Int → Int) (l r : List Int) (h : r.length = l.length) (i : Nat) (hi : i < l.length) : (List.zipWith f l r).take i ++ [f (l[i]) (r[i]'(by omega))] = (List.zipWith f l r).take (i + 1) := by
  rw [List.take_succ_eq_append_getElem (by rw [zw_len f l r h]; exact hi), List.getElem_zipWith]
theorem gvIf_ev (l r : List Int) (hl : l.length ≤ 1048576) (hr : r.length ≤ 1048576) : ∃ K, ∀ k, K ≤ k → spec_gvIf.f k l r = some (if gloveB l r = true then (l, r, true) else ([], [], false)) := by
  obtain ⟨K1, h1⟩ := gvGood_ev l r (by omega) (by omega)
  refine ⟨K1, fun k hk => ?_⟩
  simp (disch := omega) only [spec_gvIf.f, h1, Option.bind_some]
  cases gloveB l r <;> simp

end Go.Proofs.Ytcnfhfjhpicpkaa.Pure
