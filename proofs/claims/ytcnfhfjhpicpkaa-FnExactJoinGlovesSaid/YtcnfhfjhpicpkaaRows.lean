/-
  No cell of these rows narrows 'for every input' (looked for: loops, veiled, ifaces, maps, wideKeys, modest, calm, conditions, laid).
  DERIVED. THE GIVEN ROWS OF THIS SEAT. 12 by the template 'for every input the law returns true; each argument reads behind the call as it read before'; 0 by the template 'total and deterministic' (their statements: YtcnfhfjhpicpkaaTotals.lean).
  GIVEN WITH THE SEED: the statements are not yours to turn. If you find one false, say at which input.
  Laid BY PROGRAM, IN A SANDBOX (cutbox-rows.mjs): the forced cells as the released guide's own fill.sh prints them over the translation c0457d8cded30cc2… (all of the seat's roots in one cut). By AI agents, Wed Nov 11 2026. No macro, syntax, notation, axiom, sorry.
-/
import Derived.Test.YtcnfhfjhpicpkaaChecked
import GoSem.Claim
import GoSem.ClaimJoined
import GoSem.ClaimMapViews
import Derived.JoinedTies
import Derived.KernelRfl
namespace Go.Proofs.Ytcnfhfjhpicpkaa
/- THE CELL 'sum', in the pinned program and in every row, IS THE sha256 OF THE DUMP (.gsa) THAT YtcnfhfjhpicpkaaProg.lean LOADS. Nothing in Lean hashes anything: it is a label: what it is worth is what the hold of that sum in a sandbox is worth. -/
noncomputable def Try.pinned : Pinned := { name := "ytcnfhfjhpicpkaa", sum := "c0457d8cded30cc276019aae73f184d025df6bcb0b4b4b7a45caaacf33d5b214", checked := Try.checked }
namespace Rows
def none {H : Type} : Left H := { results := [], args := [] }

/-- 'laws.FnExactPairsOfGloves': WHATEVER THE INPUT: true; the input reads as it did. -/
def fnExactPairsOfGlovesSpec : ChangeSpec := { name := "fnExactPairsOfGloves", fn := fun _ => fun
  | [d] => { results := [.lit (.bool true)], args := [d] }
  | _ => none }
def fnExactPairsOfGlovesRow : OpenClaim := { program := "ytcnfhfjhpicpkaa", sum := "c0457d8cded30cc276019aae73f184d025df6bcb0b4b4b7a45caaacf33d5b214", func := "loop.example/g01372/laws.FnExactPairsOfGloves", spec := "fnExactPairsOfGloves", unfollowed := true, recurses := true, apart := false }
def FnExactPairsOfGlovesSaid : Prop := fnExactPairsOfGlovesRow.holds Try.pinned (OpenSpec.ofChange fnExactPairsOfGlovesSpec)

/-- ITS FALSE NEIGHBOUR: 'it returns false'. Refute it at one input. -/
def fnExactPairsOfGlovesWrong : ChangeSpec := { name := "fnExactPairsOfGloves", fn := fun _ => fun
  | [d] => { results := [.lit (.bool false)], args := [d] }
  | _ => none }
def FnExactPairsOfGlovesWrongFalsely : Prop := fnExactPairsOfGlovesRow.holds Try.pinned (OpenSpec.ofChange fnExactPairsOfGlovesWrong)

/-- 'laws.FnExactSureGlovePairs': WHATEVER THE INPUT: true; the input reads as it did. -/
def fnExactSureGlovePairsSpec : ChangeSpec := { name := "fnExactSureGlovePairs", fn := fun _ => fun
  | [d1, d2] => { results := [.lit (.bool true)], args := [d1, d2] }
  | _ => none }
def fnExactSureGlovePairsRow : OpenClaim := { program := "ytcnfhfjhpicpkaa", sum := "c0457d8cded30cc276019aae73f184d025df6bcb0b4b4b7a45caaacf33d5b214", func := "loop.example/g01372/laws.FnExactSureGlovePairs", spec := "fnExactSureGlovePairs", unfollowed := true, recurses := true, apart := false }
def FnExactSureGlovePairsSaid : Prop := fnExactSureGlovePairsRow.holds Try.pinned (OpenSpec.ofChange fnExactSureGlovePairsSpec)

/-- ITS FALSE NEIGHBOUR: 'it returns false'. Refute it at one input. -/
def fnExactSureGlovePairsWrong : ChangeSpec := { name := "fnExactSureGlovePairs", fn := fun _ => fun
  | [d1, d2] => { results := [.lit (.bool false)], args := [d1, d2] }
  | _ => none }
def FnExactSureGlovePairsWrongFalsely : Prop := fnExactSureGlovePairsRow.holds Try.pinned (OpenSpec.ofChange fnExactSureGlovePairsWrong)

/-- 'laws.FnExactChanceByHand': WHATEVER THE INPUT: true; the input reads as it did. -/
def fnExactChanceByHandSpec : ChangeSpec := { name := "fnExactChanceByHand", fn := fun _ => fun
  | [d] => { results := [.lit (.bool true)], args := [d] }
  | _ => none }
def fnExactChanceByHandRow : OpenClaim := { program := "ytcnfhfjhpicpkaa", sum := "c0457d8cded30cc276019aae73f184d025df6bcb0b4b4b7a45caaacf33d5b214", func := "loop.example/g01372/laws.FnExactChanceByHand", spec := "fnExactChanceByHand", unfollowed := true, recurses := true, apart := false }
def FnExactChanceByHandSaid : Prop := fnExactChanceByHandRow.holds Try.pinned (OpenSpec.ofChange fnExactChanceByHandSpec)

/-- ITS FALSE NEIGHBOUR: 'it returns false'. Refute it at one input. -/
def fnExactChanceByHandWrong : ChangeSpec := { name := "fnExactChanceByHand", fn := fun _ => fun
  | [d] => { results := [.lit (.bool false)], args := [d] }
  | _ => none }
def FnExactChanceByHandWrongFalsely : Prop := fnExactChanceByHandRow.holds Try.pinned (OpenSpec.ofChange fnExactChanceByHandWrong)

/-- 'laws.FnExactChanceOfGlovePair': WHATEVER THE INPUT: true; the input reads as it did. -/
def fnExactChanceOfGlovePairSpec : ChangeSpec := { name := "fnExactChanceOfGlovePair", fn := fun _ => fun
  | [d] => { results := [.lit (.bool true)], args := [d] }
  | _ => none }
def fnExactChanceOfGlovePairRow : OpenClaim := { program := "ytcnfhfjhpicpkaa", sum := "c0457d8cded30cc276019aae73f184d025df6bcb0b4b4b7a45caaacf33d5b214", func := "loop.example/g01372/laws.FnExactChanceOfGlovePair", spec := "fnExactChanceOfGlovePair", unfollowed := true, recurses := true, apart := false }
def FnExactChanceOfGlovePairSaid : Prop := fnExactChanceOfGlovePairRow.holds Try.pinned (OpenSpec.ofChange fnExactChanceOfGlovePairSpec)

/-- ITS FALSE NEIGHBOUR: 'it returns false'. Refute it at one input. -/
def fnExactChanceOfGlovePairWrong : ChangeSpec := { name := "fnExactChanceOfGlovePair", fn := fun _ => fun
  | [d] => { results := [.lit (.bool false)], args := [d] }
  | _ => none }
def FnExactChanceOfGlovePairWrongFalsely : Prop := fnExactChanceOfGlovePairRow.holds Try.pinned (OpenSpec.ofChange fnExactChanceOfGlovePairWrong)

/-- 'laws.FnExactTurnHands': WHATEVER THE INPUT: true; the input reads as it did. -/
def fnExactTurnHandsSpec : ChangeSpec := { name := "fnExactTurnHands", fn := fun _ => fun
  | [d] => { results := [.lit (.bool true)], args := [d] }
  | _ => none }
def fnExactTurnHandsRow : OpenClaim := { program := "ytcnfhfjhpicpkaa", sum := "c0457d8cded30cc276019aae73f184d025df6bcb0b4b4b7a45caaacf33d5b214", func := "loop.example/g01372/laws.FnExactTurnHands", spec := "fnExactTurnHands", unfollowed := true, recurses := true, apart := false }
def FnExactTurnHandsSaid : Prop := fnExactTurnHandsRow.holds Try.pinned (OpenSpec.ofChange fnExactTurnHandsSpec)

/-- ITS FALSE NEIGHBOUR: 'it returns false'. Refute it at one input. -/
def fnExactTurnHandsWrong : ChangeSpec := { name := "fnExactTurnHands", fn := fun _ => fun
  | [d] => { results := [.lit (.bool false)], args := [d] }
  | _ => none }
def FnExactTurnHandsWrongFalsely : Prop := fnExactTurnHandsRow.holds Try.pinned (OpenSpec.ofChange fnExactTurnHandsWrong)

/-- 'laws.FnExactIsSafeChoice': WHATEVER THE INPUT: true; the input reads as it did. -/
def fnExactIsSafeChoiceSpec : ChangeSpec := { name := "fnExactIsSafeChoice", fn := fun _ => fun
  | [d1, d2, d3] => { results := [.lit (.bool true)], args := [d1, d2, d3] }
  | _ => none }
def fnExactIsSafeChoiceRow : OpenClaim := { program := "ytcnfhfjhpicpkaa", sum := "c0457d8cded30cc276019aae73f184d025df6bcb0b4b4b7a45caaacf33d5b214", func := "loop.example/g01372/laws.FnExactIsSafeChoice", spec := "fnExactIsSafeChoice", unfollowed := true, recurses := true, apart := false }
def FnExactIsSafeChoiceSaid : Prop := fnExactIsSafeChoiceRow.holds Try.pinned (OpenSpec.ofChange fnExactIsSafeChoiceSpec)

/-- ITS FALSE NEIGHBOUR: 'it returns false'. Refute it at one input. -/
def fnExactIsSafeChoiceWrong : ChangeSpec := { name := "fnExactIsSafeChoice", fn := fun _ => fun
  | [d1, d2, d3] => { results := [.lit (.bool false)], args := [d1, d2, d3] }
  | _ => none }
def FnExactIsSafeChoiceWrongFalsely : Prop := fnExactIsSafeChoiceRow.holds Try.pinned (OpenSpec.ofChange fnExactIsSafeChoiceWrong)

/-- 'laws.FnExactLeastRights': WHATEVER THE INPUT: true; the input reads as it did. -/
def fnExactLeastRightsSpec : ChangeSpec := { name := "fnExactLeastRights", fn := fun _ => fun
  | [d1, d2] => { results := [.lit (.bool true)], args := [d1, d2] }
  | _ => none }
def fnExactLeastRightsRow : OpenClaim := { program := "ytcnfhfjhpicpkaa", sum := "c0457d8cded30cc276019aae73f184d025df6bcb0b4b4b7a45caaacf33d5b214", func := "loop.example/g01372/laws.FnExactLeastRights", spec := "fnExactLeastRights", unfollowed := true, recurses := true, apart := false }
def FnExactLeastRightsSaid : Prop := fnExactLeastRightsRow.holds Try.pinned (OpenSpec.ofChange fnExactLeastRightsSpec)

/-- ITS FALSE NEIGHBOUR: 'it returns false'. Refute it at one input. -/
def fnExactLeastRightsWrong : ChangeSpec := { name := "fnExactLeastRights", fn := fun _ => fun
  | [d1, d2] => { results := [.lit (.bool false)], args := [d1, d2] }
  | _ => none }
def FnExactLeastRightsWrongFalsely : Prop := fnExactLeastRightsRow.holds Try.pinned (OpenSpec.ofChange fnExactLeastRightsWrong)

/-- 'laws.FnExactGlovesMissing': WHATEVER THE INPUT: true; the input reads as it did. -/
def fnExactGlovesMissingSpec : ChangeSpec := { name := "fnExactGlovesMissing", fn := fun _ => fun
  | [d] => { results := [.lit (.bool true)], args := [d] }
  | _ => none }
def fnExactGlovesMissingRow : OpenClaim := { program := "ytcnfhfjhpicpkaa", sum := "c0457d8cded30cc276019aae73f184d025df6bcb0b4b4b7a45caaacf33d5b214", func := "loop.example/g01372/laws.FnExactGlovesMissing", spec := "fnExactGlovesMissing", unfollowed := true, recurses := true, apart := false }
def FnExactGlovesMissingSaid : Prop := fnExactGlovesMissingRow.holds Try.pinned (OpenSpec.ofChange fnExactGlovesMissingSpec)

/-- ITS FALSE NEIGHBOUR: 'it returns false'. Refute it at one input. -/
def fnExactGlovesMissingWrong : ChangeSpec := { name := "fnExactGlovesMissing", fn := fun _ => fun
  | [d] => { results := [.lit (.bool false)], args := [d] }
  | _ => none }
def FnExactGlovesMissingWrongFalsely : Prop := fnExactGlovesMissingRow.holds Try.pinned (OpenSpec.ofChange fnExactGlovesMissingWrong)

/-- 'laws.FnExactJoinGloves': WHATEVER THE INPUT: true; the input reads as it did. -/
def fnExactJoinGlovesSpec : ChangeSpec := { name := "fnExactJoinGloves", fn := fun _ => fun
  | [d1, d2] => { results := [.lit (.bool true)], args := [d1, d2] }
  | _ => none }
def fnExactJoinGlovesRow : OpenClaim := { program := "ytcnfhfjhpicpkaa", sum := "c0457d8cded30cc276019aae73f184d025df6bcb0b4b4b7a45caaacf33d5b214", func := "loop.example/g01372/laws.FnExactJoinGloves", spec := "fnExactJoinGloves", unfollowed := true, recurses := true, apart := false }
def FnExactJoinGlovesSaid : Prop := fnExactJoinGlovesRow.holds Try.pinned (OpenSpec.ofChange fnExactJoinGlovesSpec)

/-- ITS FALSE NEIGHBOUR: 'it returns false'. Refute it at one input. -/
def fnExactJoinGlovesWrong : ChangeSpec := { name := "fnExactJoinGloves", fn := fun _ => fun
  | [d1, d2] => { results := [.lit (.bool false)], args := [d1, d2] }
  | _ => none }
def FnExactJoinGlovesWrongFalsely : Prop := fnExactJoinGlovesRow.holds Try.pinned (OpenSpec.ofChange fnExactJoinGlovesWrong)

/-- 'laws.FnExactLooseGloves': WHATEVER THE INPUT: true; the input reads as it did. -/
def fnExactLooseGlovesSpec : ChangeSpec := { name := "fnExactLooseGloves", fn := fun _ => fun
  | [d] => { results := [.lit (.bool true)], args := [d] }
  | _ => none }
def fnExactLooseGlovesRow : OpenClaim := { program := "ytcnfhfjhpicpkaa", sum := "c0457d8cded30cc276019aae73f184d025df6bcb0b4b4b7a45caaacf33d5b214", func := "loop.example/g01372/laws.FnExactLooseGloves", spec := "fnExactLooseGloves", unfollowed := true, recurses := true, apart := false }
def FnExactLooseGlovesSaid : Prop := fnExactLooseGlovesRow.holds Try.pinned (OpenSpec.ofChange fnExactLooseGlovesSpec)

/-- ITS FALSE NEIGHBOUR: 'it returns false'. Refute it at one input. -/
def fnExactLooseGlovesWrong : ChangeSpec := { name := "fnExactLooseGloves", fn := fun _ => fun
  | [d] => { results := [.lit (.bool false)], args := [d] }
  | _ => none }
def FnExactLooseGlovesWrongFalsely : Prop := fnExactLooseGlovesRow.holds Try.pinned (OpenSpec.ofChange fnExactLooseGlovesWrong)

/-- 'laws.FnExactFewestByHand': WHATEVER THE INPUT: true; the input reads as it did. -/
def fnExactFewestByHandSpec : ChangeSpec := { name := "fnExactFewestByHand", fn := fun _ => fun
  | [d] => { results := [.lit (.bool true)], args := [d] }
  | _ => none }
def fnExactFewestByHandRow : OpenClaim := { program := "ytcnfhfjhpicpkaa", sum := "c0457d8cded30cc276019aae73f184d025df6bcb0b4b4b7a45caaacf33d5b214", func := "loop.example/g01372/laws.FnExactFewestByHand", spec := "fnExactFewestByHand", unfollowed := true, recurses := true, apart := false }
def FnExactFewestByHandSaid : Prop := fnExactFewestByHandRow.holds Try.pinned (OpenSpec.ofChange fnExactFewestByHandSpec)

/-- ITS FALSE NEIGHBOUR: 'it returns false'. Refute it at one input. -/
def fnExactFewestByHandWrong : ChangeSpec := { name := "fnExactFewestByHand", fn := fun _ => fun
  | [d] => { results := [.lit (.bool false)], args := [d] }
  | _ => none }
def FnExactFewestByHandWrongFalsely : Prop := fnExactFewestByHandRow.holds Try.pinned (OpenSpec.ofChange fnExactFewestByHandWrong)

/-- 'laws.FnExactWorstGloves': WHATEVER THE INPUT: true; the input reads as it did. -/
def fnExactWorstGlovesSpec : ChangeSpec := { name := "fnExactWorstGloves", fn := fun _ => fun
  | [d1, d2] => { results := [.lit (.bool true)], args := [d1, d2] }
  | _ => none }
def fnExactWorstGlovesRow : OpenClaim := { program := "ytcnfhfjhpicpkaa", sum := "c0457d8cded30cc276019aae73f184d025df6bcb0b4b4b7a45caaacf33d5b214", func := "loop.example/g01372/laws.FnExactWorstGloves", spec := "fnExactWorstGloves", unfollowed := true, recurses := true, apart := false }
def FnExactWorstGlovesSaid : Prop := fnExactWorstGlovesRow.holds Try.pinned (OpenSpec.ofChange fnExactWorstGlovesSpec)

/-- ITS FALSE NEIGHBOUR: 'it returns false'. Refute it at one input. -/
def fnExactWorstGlovesWrong : ChangeSpec := { name := "fnExactWorstGloves", fn := fun _ => fun
  | [d1, d2] => { results := [.lit (.bool false)], args := [d1, d2] }
  | _ => none }
def FnExactWorstGlovesWrongFalsely : Prop := fnExactWorstGlovesRow.holds Try.pinned (OpenSpec.ofChange fnExactWorstGlovesWrong)

/- THE SECOND FORM. 'bulk': how many values and letters a reading holds, each counted each time it is reached (what is shared counts as often as it is met; a slice's spare places count too). A statement '..UptoSaid' is the law's where the arguments, and the package variables that the reading takes, are together of bulk at most 1048576: NARROWER than '..Said'. Prove '..Said' where nothing that the law and all that it calls make is longer than what came in: it says more and counts as full. Else prove '..UptoSaid'. A law counts once. -/
mutual
def uptoBulk {H : Type} : DataW H → Nat
  | .lit (.string bytes) => bytes.length + 1
  | .lit _ => 1
  | .nil => 1
  | .ptr d => uptoBulk d + 1
  | .slice elems spare => uptoBulkAll elems + uptoBulkAll spare + 1
  | .agg parts => uptoBulkAll parts + 1
  | .iface _ d => uptoBulk d + 1
  | .map entries => uptoBulkEntries entries + 1
  | .held _ => 1
def uptoBulkAll {H : Type} : List (DataW H) → Nat
  | [] => 0
  | d :: r => uptoBulk d + uptoBulkAll r
def uptoBulkEntries {H : Type} : List (Lit × DataW H) → Nat
  | [] => 0
  | x :: r => uptoBulkEntry x + uptoBulkEntries r
def uptoBulkEntry {H : Type} : Lit × DataW H → Nat
  | (.string bytes, d) => bytes.length + uptoBulk d + 1
  | (_, d) => uptoBulk d + 1
 end
def uptoSmall : (H : Type) → List (DataW H) → Bool := fun _ ds => decide (uptoBulkAll ds ≤ 1048576)
def OpenSpec.upto (s : _root_.Go.ChangeSpec) : _root_.Go.OpenSpec := { _root_.Go.OpenSpec.ofChange s with cond := some uptoSmall }

/-- 'laws.FnExactPairsOfGloves', WHERE WHAT IT READS IS OF BULK AT MOST 1048576: true; the input reads as it did. -/
def fnExactPairsOfGlovesUptoRow : OpenClaim := { program := "ytcnfhfjhpicpkaa", sum := "c0457d8cded30cc276019aae73f184d025df6bcb0b4b4b7a45caaacf33d5b214", func := "loop.example/g01372/laws.FnExactPairsOfGloves", spec := "fnExactPairsOfGloves", unfollowed := true, recurses := true, apart := false, narrowed := true }
def FnExactPairsOfGlovesUptoSaid : Prop := fnExactPairsOfGlovesUptoRow.holds Try.pinned (OpenSpec.upto fnExactPairsOfGlovesSpec)

/-- 'laws.FnExactSureGlovePairs', WHERE WHAT IT READS IS OF BULK AT MOST 1048576: true; the input reads as it did. -/
def fnExactSureGlovePairsUptoRow : OpenClaim := { program := "ytcnfhfjhpicpkaa", sum := "c0457d8cded30cc276019aae73f184d025df6bcb0b4b4b7a45caaacf33d5b214", func := "loop.example/g01372/laws.FnExactSureGlovePairs", spec := "fnExactSureGlovePairs", unfollowed := true, recurses := true, apart := false, narrowed := true }
def FnExactSureGlovePairsUptoSaid : Prop := fnExactSureGlovePairsUptoRow.holds Try.pinned (OpenSpec.upto fnExactSureGlovePairsSpec)

/-- 'laws.FnExactChanceByHand', WHERE WHAT IT READS IS OF BULK AT MOST 1048576: true; the input reads as it did. -/
def fnExactChanceByHandUptoRow : OpenClaim := { program := "ytcnfhfjhpicpkaa", sum := "c0457d8cded30cc276019aae73f184d025df6bcb0b4b4b7a45caaacf33d5b214", func := "loop.example/g01372/laws.FnExactChanceByHand", spec := "fnExactChanceByHand", unfollowed := true, recurses := true, apart := false, narrowed := true }
def FnExactChanceByHandUptoSaid : Prop := fnExactChanceByHandUptoRow.holds Try.pinned (OpenSpec.upto fnExactChanceByHandSpec)

/-- 'laws.FnExactChanceOfGlovePair', WHERE WHAT IT READS IS OF BULK AT MOST 1048576: true; the input reads as it did. -/
def fnExactChanceOfGlovePairUptoRow : OpenClaim := { program := "ytcnfhfjhpicpkaa", sum := "c0457d8cded30cc276019aae73f184d025df6bcb0b4b4b7a45caaacf33d5b214", func := "loop.example/g01372/laws.FnExactChanceOfGlovePair", spec := "fnExactChanceOfGlovePair", unfollowed := true, recurses := true, apart := false, narrowed := true }
def FnExactChanceOfGlovePairUptoSaid : Prop := fnExactChanceOfGlovePairUptoRow.holds Try.pinned (OpenSpec.upto fnExactChanceOfGlovePairSpec)

/-- 'laws.FnExactTurnHands', WHERE WHAT IT READS IS OF BULK AT MOST 1048576: true; the input reads as it did. -/
def fnExactTurnHandsUptoRow : OpenClaim := { program := "ytcnfhfjhpicpkaa", sum := "c0457d8cded30cc276019aae73f184d025df6bcb0b4b4b7a45caaacf33d5b214", func := "loop.example/g01372/laws.FnExactTurnHands", spec := "fnExactTurnHands", unfollowed := true, recurses := true, apart := false, narrowed := true }
def FnExactTurnHandsUptoSaid : Prop := fnExactTurnHandsUptoRow.holds Try.pinned (OpenSpec.upto fnExactTurnHandsSpec)

/-- 'laws.FnExactIsSafeChoice', WHERE WHAT IT READS IS OF BULK AT MOST 1048576: true; the input reads as it did. -/
def fnExactIsSafeChoiceUptoRow : OpenClaim := { program := "ytcnfhfjhpicpkaa", sum := "c0457d8cded30cc276019aae73f184d025df6bcb0b4b4b7a45caaacf33d5b214", func := "loop.example/g01372/laws.FnExactIsSafeChoice", spec := "fnExactIsSafeChoice", unfollowed := true, recurses := true, apart := false, narrowed := true }
def FnExactIsSafeChoiceUptoSaid : Prop := fnExactIsSafeChoiceUptoRow.holds Try.pinned (OpenSpec.upto fnExactIsSafeChoiceSpec)

/-- 'laws.FnExactLeastRights', WHERE WHAT IT READS IS OF BULK AT MOST 1048576: true; the input reads as it did. -/
def fnExactLeastRightsUptoRow : OpenClaim := { program := "ytcnfhfjhpicpkaa", sum := "c0457d8cded30cc276019aae73f184d025df6bcb0b4b4b7a45caaacf33d5b214", func := "loop.example/g01372/laws.FnExactLeastRights", spec := "fnExactLeastRights", unfollowed := true, recurses := true, apart := false, narrowed := true }
def FnExactLeastRightsUptoSaid : Prop := fnExactLeastRightsUptoRow.holds Try.pinned (OpenSpec.upto fnExactLeastRightsSpec)

/-- 'laws.FnExactGlovesMissing', WHERE WHAT IT READS IS OF BULK AT MOST 1048576: true; the input reads as it did. -/
def fnExactGlovesMissingUptoRow : OpenClaim := { program := "ytcnfhfjhpicpkaa", sum := "c0457d8cded30cc276019aae73f184d025df6bcb0b4b4b7a45caaacf33d5b214", func := "loop.example/g01372/laws.FnExactGlovesMissing", spec := "fnExactGlovesMissing", unfollowed := true, recurses := true, apart := false, narrowed := true }
def FnExactGlovesMissingUptoSaid : Prop := fnExactGlovesMissingUptoRow.holds Try.pinned (OpenSpec.upto fnExactGlovesMissingSpec)

/-- 'laws.FnExactJoinGloves', WHERE WHAT IT READS IS OF BULK AT MOST 1048576: true; the input reads as it did. -/
def fnExactJoinGlovesUptoRow : OpenClaim := { program := "ytcnfhfjhpicpkaa", sum := "c0457d8cded30cc276019aae73f184d025df6bcb0b4b4b7a45caaacf33d5b214", func := "loop.example/g01372/laws.FnExactJoinGloves", spec := "fnExactJoinGloves", unfollowed := true, recurses := true, apart := false, narrowed := true }
def FnExactJoinGlovesUptoSaid : Prop := fnExactJoinGlovesUptoRow.holds Try.pinned (OpenSpec.upto fnExactJoinGlovesSpec)

/-- 'laws.FnExactLooseGloves', WHERE WHAT IT READS IS OF BULK AT MOST 1048576: true; the input reads as it did. -/
def fnExactLooseGlovesUptoRow : OpenClaim := { program := "ytcnfhfjhpicpkaa", sum := "c0457d8cded30cc276019aae73f184d025df6bcb0b4b4b7a45caaacf33d5b214", func := "loop.example/g01372/laws.FnExactLooseGloves", spec := "fnExactLooseGloves", unfollowed := true, recurses := true, apart := false, narrowed := true }
def FnExactLooseGlovesUptoSaid : Prop := fnExactLooseGlovesUptoRow.holds Try.pinned (OpenSpec.upto fnExactLooseGlovesSpec)

/-- 'laws.FnExactFewestByHand', WHERE WHAT IT READS IS OF BULK AT MOST 1048576: true; the input reads as it did. -/
def fnExactFewestByHandUptoRow : OpenClaim := { program := "ytcnfhfjhpicpkaa", sum := "c0457d8cded30cc276019aae73f184d025df6bcb0b4b4b7a45caaacf33d5b214", func := "loop.example/g01372/laws.FnExactFewestByHand", spec := "fnExactFewestByHand", unfollowed := true, recurses := true, apart := false, narrowed := true }
def FnExactFewestByHandUptoSaid : Prop := fnExactFewestByHandUptoRow.holds Try.pinned (OpenSpec.upto fnExactFewestByHandSpec)

/-- 'laws.FnExactWorstGloves', WHERE WHAT IT READS IS OF BULK AT MOST 1048576: true; the input reads as it did. -/
def fnExactWorstGlovesUptoRow : OpenClaim := { program := "ytcnfhfjhpicpkaa", sum := "c0457d8cded30cc276019aae73f184d025df6bcb0b4b4b7a45caaacf33d5b214", func := "loop.example/g01372/laws.FnExactWorstGloves", spec := "fnExactWorstGloves", unfollowed := true, recurses := true, apart := false, narrowed := true }
def FnExactWorstGlovesUptoSaid : Prop := fnExactWorstGlovesUptoRow.holds Try.pinned (OpenSpec.upto fnExactWorstGlovesSpec)

end Rows
end Go.Proofs.Ytcnfhfjhpicpkaa
