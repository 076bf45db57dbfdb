/-
  No cell of these rows narrows 'for every input' (looked for: loops, veiled, ifaces, maps, wideKeys, modest, calm, conditions, laid).
  DERIVED. THE GIVEN ROWS OF THIS SEAT. 11 by the template 'for every input the law returns true; each argument reads behind the call as it read before'; 0 by the template 'total and deterministic' (their statements: YtdlififooknddaaTotals.lean).
  GIVEN WITH THE SEED: the statements are not yours to turn. If you find one false, say at which input.
  Laid BY PROGRAM, IN A SANDBOX (cutbox-rows.mjs): the forced cells as the released guide's own fill.sh prints them over the translation 367af71f2571a670… (all of the seat's roots in one cut). By AI agents, Wed Nov 11 2026. No macro, syntax, notation, axiom, sorry.
-/
import Derived.Test.YtdlififooknddaaChecked
import GoSem.Claim
import GoSem.ClaimJoined
import GoSem.ClaimMapViews
import Derived.JoinedTies
import Derived.KernelRfl
namespace Go.Proofs.Ytdlififooknddaa
/- THE CELL 'sum', in the pinned program and in every row, IS THE sha256 OF THE DUMP (.gsa) THAT YtdlififooknddaaProg.lean LOADS. Nothing in Lean hashes anything: it is a label: what it is worth is what the hold of that sum in a sandbox is worth. -/
noncomputable def Try.pinned : Pinned := { name := "ytdlififooknddaa", sum := "367af71f2571a670bc294908432aa1b466579b535708ffe95247cd45df42568b", checked := Try.checked }
namespace Rows
def none {H : Type} : Left H := { results := [], args := [] }

/-- 'laws.FnExactAreGloves': WHATEVER THE INPUT: true; the input reads as it did. -/
def fnExactAreGlovesSpec : ChangeSpec := { name := "fnExactAreGloves", fn := fun _ => fun
  | [d] => { results := [.lit (.bool true)], args := [d] }
  | _ => none }
def fnExactAreGlovesRow : OpenClaim := { program := "ytdlififooknddaa", sum := "367af71f2571a670bc294908432aa1b466579b535708ffe95247cd45df42568b", func := "loop.example/g01372/laws.FnExactAreGloves", spec := "fnExactAreGloves", unfollowed := true, recurses := true, apart := false }
def FnExactAreGlovesSaid : Prop := fnExactAreGlovesRow.holds Try.pinned (OpenSpec.ofChange fnExactAreGlovesSpec)

/-- ITS FALSE NEIGHBOUR: 'it returns false'. Refute it at one input. -/
def fnExactAreGlovesWrong : ChangeSpec := { name := "fnExactAreGloves", fn := fun _ => fun
  | [d] => { results := [.lit (.bool false)], args := [d] }
  | _ => none }
def FnExactAreGlovesWrongFalsely : Prop := fnExactAreGlovesRow.holds Try.pinned (OpenSpec.ofChange fnExactAreGlovesWrong)

/-- 'laws.FnExactCountGloves': WHATEVER THE INPUT: true; the input reads as it did. -/
def fnExactCountGlovesSpec : ChangeSpec := { name := "fnExactCountGloves", fn := fun _ => fun
  | [d] => { results := [.lit (.bool true)], args := [d] }
  | _ => none }
def fnExactCountGlovesRow : OpenClaim := { program := "ytdlififooknddaa", sum := "367af71f2571a670bc294908432aa1b466579b535708ffe95247cd45df42568b", func := "loop.example/g01372/laws.FnExactCountGloves", spec := "fnExactCountGloves", unfollowed := true, recurses := true, apart := false }
def FnExactCountGlovesSaid : Prop := fnExactCountGlovesRow.holds Try.pinned (OpenSpec.ofChange fnExactCountGlovesSpec)

/-- ITS FALSE NEIGHBOUR: 'it returns false'. Refute it at one input. -/
def fnExactCountGlovesWrong : ChangeSpec := { name := "fnExactCountGloves", fn := fun _ => fun
  | [d] => { results := [.lit (.bool false)], args := [d] }
  | _ => none }
def FnExactCountGlovesWrongFalsely : Prop := fnExactCountGlovesRow.holds Try.pinned (OpenSpec.ofChange fnExactCountGlovesWrong)

/-- 'laws.FnExactSureBothHands': WHATEVER THE INPUT: true; the input reads as it did. -/
def fnExactSureBothHandsSpec : ChangeSpec := { name := "fnExactSureBothHands", fn := fun _ => fun
  | [d] => { results := [.lit (.bool true)], args := [d] }
  | _ => none }
def fnExactSureBothHandsRow : OpenClaim := { program := "ytdlififooknddaa", sum := "367af71f2571a670bc294908432aa1b466579b535708ffe95247cd45df42568b", func := "loop.example/g01372/laws.FnExactSureBothHands", spec := "fnExactSureBothHands", unfollowed := true, recurses := true, apart := false }
def FnExactSureBothHandsSaid : Prop := fnExactSureBothHandsRow.holds Try.pinned (OpenSpec.ofChange fnExactSureBothHandsSpec)

/-- ITS FALSE NEIGHBOUR: 'it returns false'. Refute it at one input. -/
def fnExactSureBothHandsWrong : ChangeSpec := { name := "fnExactSureBothHands", fn := fun _ => fun
  | [d] => { results := [.lit (.bool false)], args := [d] }
  | _ => none }
def FnExactSureBothHandsWrongFalsely : Prop := fnExactSureBothHandsRow.holds Try.pinned (OpenSpec.ofChange fnExactSureBothHandsWrong)

/-- 'laws.FnExactSurePairOfColour': WHATEVER THE INPUT: true; the input reads as it did. -/
def fnExactSurePairOfColourSpec : ChangeSpec := { name := "fnExactSurePairOfColour", fn := fun _ => fun
  | [d1, d2] => { results := [.lit (.bool true)], args := [d1, d2] }
  | _ => none }
def fnExactSurePairOfColourRow : OpenClaim := { program := "ytdlififooknddaa", sum := "367af71f2571a670bc294908432aa1b466579b535708ffe95247cd45df42568b", func := "loop.example/g01372/laws.FnExactSurePairOfColour", spec := "fnExactSurePairOfColour", unfollowed := true, recurses := true, apart := false }
def FnExactSurePairOfColourSaid : Prop := fnExactSurePairOfColourRow.holds Try.pinned (OpenSpec.ofChange fnExactSurePairOfColourSpec)

/-- ITS FALSE NEIGHBOUR: 'it returns false'. Refute it at one input. -/
def fnExactSurePairOfColourWrong : ChangeSpec := { name := "fnExactSurePairOfColour", fn := fun _ => fun
  | [d1, d2] => { results := [.lit (.bool false)], args := [d1, d2] }
  | _ => none }
def FnExactSurePairOfColourWrongFalsely : Prop := fnExactSurePairOfColourRow.holds Try.pinned (OpenSpec.ofChange fnExactSurePairOfColourWrong)

/-- 'laws.FnExactSureOfHand': WHATEVER THE INPUT: true; the input reads as it did. -/
def fnExactSureOfHandSpec : ChangeSpec := { name := "fnExactSureOfHand", fn := fun _ => fun
  | [d1, d2, d3] => { results := [.lit (.bool true)], args := [d1, d2, d3] }
  | _ => none }
def fnExactSureOfHandRow : OpenClaim := { program := "ytdlififooknddaa", sum := "367af71f2571a670bc294908432aa1b466579b535708ffe95247cd45df42568b", func := "loop.example/g01372/laws.FnExactSureOfHand", spec := "fnExactSureOfHand", unfollowed := true, recurses := true, apart := false }
def FnExactSureOfHandSaid : Prop := fnExactSureOfHandRow.holds Try.pinned (OpenSpec.ofChange fnExactSureOfHandSpec)

/-- ITS FALSE NEIGHBOUR: 'it returns false'. Refute it at one input. -/
def fnExactSureOfHandWrong : ChangeSpec := { name := "fnExactSureOfHand", fn := fun _ => fun
  | [d1, d2, d3] => { results := [.lit (.bool false)], args := [d1, d2, d3] }
  | _ => none }
def FnExactSureOfHandWrongFalsely : Prop := fnExactSureOfHandRow.holds Try.pinned (OpenSpec.ofChange fnExactSureOfHandWrong)

/-- 'laws.FnExactWaysToDraw': WHATEVER THE INPUT: true; the input reads as it did. -/
def fnExactWaysToDrawSpec : ChangeSpec := { name := "fnExactWaysToDraw", fn := fun _ => fun
  | [d1, d2] => { results := [.lit (.bool true)], args := [d1, d2] }
  | _ => none }
def fnExactWaysToDrawRow : OpenClaim := { program := "ytdlififooknddaa", sum := "367af71f2571a670bc294908432aa1b466579b535708ffe95247cd45df42568b", func := "loop.example/g01372/laws.FnExactWaysToDraw", spec := "fnExactWaysToDraw", unfollowed := true, recurses := true, apart := false }
def FnExactWaysToDrawSaid : Prop := fnExactWaysToDrawRow.holds Try.pinned (OpenSpec.ofChange fnExactWaysToDrawSpec)

/-- ITS FALSE NEIGHBOUR: 'it returns false'. Refute it at one input. -/
def fnExactWaysToDrawWrong : ChangeSpec := { name := "fnExactWaysToDraw", fn := fun _ => fun
  | [d1, d2] => { results := [.lit (.bool false)], args := [d1, d2] }
  | _ => none }
def FnExactWaysToDrawWrongFalsely : Prop := fnExactWaysToDrawRow.holds Try.pinned (OpenSpec.ofChange fnExactWaysToDrawWrong)

/-- 'laws.FnExactMeanOfColour': WHATEVER THE INPUT: true; the input reads as it did. -/
def fnExactMeanOfColourSpec : ChangeSpec := { name := "fnExactMeanOfColour", fn := fun _ => fun
  | [d1, d2, d3] => { results := [.lit (.bool true)], args := [d1, d2, d3] }
  | _ => none }
def fnExactMeanOfColourRow : OpenClaim := { program := "ytdlififooknddaa", sum := "367af71f2571a670bc294908432aa1b466579b535708ffe95247cd45df42568b", func := "loop.example/g01372/laws.FnExactMeanOfColour", spec := "fnExactMeanOfColour", unfollowed := true, recurses := true, apart := false }
def FnExactMeanOfColourSaid : Prop := fnExactMeanOfColourRow.holds Try.pinned (OpenSpec.ofChange fnExactMeanOfColourSpec)

/-- ITS FALSE NEIGHBOUR: 'it returns false'. Refute it at one input. -/
def fnExactMeanOfColourWrong : ChangeSpec := { name := "fnExactMeanOfColour", fn := fun _ => fun
  | [d1, d2, d3] => { results := [.lit (.bool false)], args := [d1, d2, d3] }
  | _ => none }
def FnExactMeanOfColourWrongFalsely : Prop := fnExactMeanOfColourRow.holds Try.pinned (OpenSpec.ofChange fnExactMeanOfColourWrong)

/-- 'laws.FnExactChanceTogether': WHATEVER THE INPUT: true; the input reads as it did. -/
def fnExactChanceTogetherSpec : ChangeSpec := { name := "fnExactChanceTogether", fn := fun _ => fun
  | [d1, d2] => { results := [.lit (.bool true)], args := [d1, d2] }
  | _ => none }
def fnExactChanceTogetherRow : OpenClaim := { program := "ytdlififooknddaa", sum := "367af71f2571a670bc294908432aa1b466579b535708ffe95247cd45df42568b", func := "loop.example/g01372/laws.FnExactChanceTogether", spec := "fnExactChanceTogether", unfollowed := true, recurses := true, apart := false }
def FnExactChanceTogetherSaid : Prop := fnExactChanceTogetherRow.holds Try.pinned (OpenSpec.ofChange fnExactChanceTogetherSpec)

/-- ITS FALSE NEIGHBOUR: 'it returns false'. Refute it at one input. -/
def fnExactChanceTogetherWrong : ChangeSpec := { name := "fnExactChanceTogether", fn := fun _ => fun
  | [d1, d2] => { results := [.lit (.bool false)], args := [d1, d2] }
  | _ => none }
def FnExactChanceTogetherWrongFalsely : Prop := fnExactChanceTogetherRow.holds Try.pinned (OpenSpec.ofChange fnExactChanceTogetherWrong)

/-- 'laws.FnExactChanceOfColour': WHATEVER THE INPUT: true; the input reads as it did. -/
def fnExactChanceOfColourSpec : ChangeSpec := { name := "fnExactChanceOfColour", fn := fun _ => fun
  | [d1, d2, d3, d4] => { results := [.lit (.bool true)], args := [d1, d2, d3, d4] }
  | _ => none }
def fnExactChanceOfColourRow : OpenClaim := { program := "ytdlififooknddaa", sum := "367af71f2571a670bc294908432aa1b466579b535708ffe95247cd45df42568b", func := "loop.example/g01372/laws.FnExactChanceOfColour", spec := "fnExactChanceOfColour", unfollowed := true, recurses := true, apart := false }
def FnExactChanceOfColourSaid : Prop := fnExactChanceOfColourRow.holds Try.pinned (OpenSpec.ofChange fnExactChanceOfColourSpec)

/-- ITS FALSE NEIGHBOUR: 'it returns false'. Refute it at one input. -/
def fnExactChanceOfColourWrong : ChangeSpec := { name := "fnExactChanceOfColour", fn := fun _ => fun
  | [d1, d2, d3, d4] => { results := [.lit (.bool false)], args := [d1, d2, d3, d4] }
  | _ => none }
def FnExactChanceOfColourWrongFalsely : Prop := fnExactChanceOfColourRow.holds Try.pinned (OpenSpec.ofChange fnExactChanceOfColourWrong)

/-- 'laws.FnExactChanceNextPair': WHATEVER THE INPUT: true; the input reads as it did. -/
def fnExactChanceNextPairSpec : ChangeSpec := { name := "fnExactChanceNextPair", fn := fun _ => fun
  | [d1, d2] => { results := [.lit (.bool true)], args := [d1, d2] }
  | _ => none }
def fnExactChanceNextPairRow : OpenClaim := { program := "ytdlififooknddaa", sum := "367af71f2571a670bc294908432aa1b466579b535708ffe95247cd45df42568b", func := "loop.example/g01372/laws.FnExactChanceNextPair", spec := "fnExactChanceNextPair", unfollowed := true, recurses := true, apart := false }
def FnExactChanceNextPairSaid : Prop := fnExactChanceNextPairRow.holds Try.pinned (OpenSpec.ofChange fnExactChanceNextPairSpec)

/-- ITS FALSE NEIGHBOUR: 'it returns false'. Refute it at one input. -/
def fnExactChanceNextPairWrong : ChangeSpec := { name := "fnExactChanceNextPair", fn := fun _ => fun
  | [d1, d2] => { results := [.lit (.bool false)], args := [d1, d2] }
  | _ => none }
def FnExactChanceNextPairWrongFalsely : Prop := fnExactChanceNextPairRow.holds Try.pinned (OpenSpec.ofChange fnExactChanceNextPairWrong)

/-- 'laws.FnExactChanceOfDraw': WHATEVER THE INPUT: true; the input reads as it did. -/
def fnExactChanceOfDrawSpec : ChangeSpec := { name := "fnExactChanceOfDraw", fn := fun _ => fun
  | [d1, d2] => { results := [.lit (.bool true)], args := [d1, d2] }
  | _ => none }
def fnExactChanceOfDrawRow : OpenClaim := { program := "ytdlififooknddaa", sum := "367af71f2571a670bc294908432aa1b466579b535708ffe95247cd45df42568b", func := "loop.example/g01372/laws.FnExactChanceOfDraw", spec := "fnExactChanceOfDraw", unfollowed := true, recurses := true, apart := false }
def FnExactChanceOfDrawSaid : Prop := fnExactChanceOfDrawRow.holds Try.pinned (OpenSpec.ofChange fnExactChanceOfDrawSpec)

/-- ITS FALSE NEIGHBOUR: 'it returns false'. Refute it at one input. -/
def fnExactChanceOfDrawWrong : ChangeSpec := { name := "fnExactChanceOfDraw", fn := fun _ => fun
  | [d1, d2] => { results := [.lit (.bool false)], args := [d1, d2] }
  | _ => none }
def FnExactChanceOfDrawWrongFalsely : Prop := fnExactChanceOfDrawRow.holds Try.pinned (OpenSpec.ofChange fnExactChanceOfDrawWrong)

/- THE SECOND FORM. 'bulk': how many values and letters a reading holds, each counted each time it is reached (what is shared counts as often as it is met; a slice's spare places count too). A statement '..UptoSaid' is the law's where the arguments, and the package variables that the reading takes, are together of bulk at most 1048576: NARROWER than '..Said'. Prove '..Said' where nothing that the law and all that it calls make is longer than what came in: it says more and counts as full. Else prove '..UptoSaid'. A law counts once. -/
mutual
def uptoBulk {H : Type} : DataW H → Nat
  | .lit (.string bytes) => bytes.length + 1
  | .lit _ => 1
  | .nil => 1
  | .ptr d => uptoBulk d + 1
  | .slice elems spare => uptoBulkAll elems + uptoBulkAll spare + 1
  | .agg parts => uptoBulkAll parts + 1
  | .iface _ d => uptoBulk d + 1
  | .map entries => uptoBulkEntries entries + 1
  | .held _ => 1
def uptoBulkAll {H : Type} : List (DataW H) → Nat
  | [] => 0
  | d :: r => uptoBulk d + uptoBulkAll r
def uptoBulkEntries {H : Type} : List (Lit × DataW H) → Nat
  | [] => 0
  | x :: r => uptoBulkEntry x + uptoBulkEntries r
def uptoBulkEntry {H : Type} : Lit × DataW H → Nat
  | (.string bytes, d) => bytes.length + uptoBulk d + 1
  | (_, d) => uptoBulk d + 1
 end
def uptoSmall : (H : Type) → List (DataW H) → Bool := fun _ ds => decide (uptoBulkAll ds ≤ 1048576)
def OpenSpec.upto (s : _root_.Go.ChangeSpec) : _root_.Go.OpenSpec := { _root_.Go.OpenSpec.ofChange s with cond := some uptoSmall }

/-- 'laws.FnExactAreGloves', WHERE WHAT IT READS IS OF BULK AT MOST 1048576: true; the input reads as it did. -/
def fnExactAreGlovesUptoRow : OpenClaim := { program := "ytdlififooknddaa", sum := "367af71f2571a670bc294908432aa1b466579b535708ffe95247cd45df42568b", func := "loop.example/g01372/laws.FnExactAreGloves", spec := "fnExactAreGloves", unfollowed := true, recurses := true, apart := false, narrowed := true }
def FnExactAreGlovesUptoSaid : Prop := fnExactAreGlovesUptoRow.holds Try.pinned (OpenSpec.upto fnExactAreGlovesSpec)

/-- 'laws.FnExactCountGloves', WHERE WHAT IT READS IS OF BULK AT MOST 1048576: true; the input reads as it did. -/
def fnExactCountGlovesUptoRow : OpenClaim := { program := "ytdlififooknddaa", sum := "367af71f2571a670bc294908432aa1b466579b535708ffe95247cd45df42568b", func := "loop.example/g01372/laws.FnExactCountGloves", spec := "fnExactCountGloves", unfollowed := true, recurses := true, apart := false, narrowed := true }
def FnExactCountGlovesUptoSaid : Prop := fnExactCountGlovesUptoRow.holds Try.pinned (OpenSpec.upto fnExactCountGlovesSpec)

/-- 'laws.FnExactSureBothHands', WHERE WHAT IT READS IS OF BULK AT MOST 1048576: true; the input reads as it did. -/
def fnExactSureBothHandsUptoRow : OpenClaim := { program := "ytdlififooknddaa", sum := "367af71f2571a670bc294908432aa1b466579b535708ffe95247cd45df42568b", func := "loop.example/g01372/laws.FnExactSureBothHands", spec := "fnExactSureBothHands", unfollowed := true, recurses := true, apart := false, narrowed := true }
def FnExactSureBothHandsUptoSaid : Prop := fnExactSureBothHandsUptoRow.holds Try.pinned (OpenSpec.upto fnExactSureBothHandsSpec)

/-- 'laws.FnExactSurePairOfColour', WHERE WHAT IT READS IS OF BULK AT MOST 1048576: true; the input reads as it did. -/
def fnExactSurePairOfColourUptoRow : OpenClaim := { program := "ytdlififooknddaa", sum := "367af71f2571a670bc294908432aa1b466579b535708ffe95247cd45df42568b", func := "loop.example/g01372/laws.FnExactSurePairOfColour", spec := "fnExactSurePairOfColour", unfollowed := true, recurses := true, apart := false, narrowed := true }
def FnExactSurePairOfColourUptoSaid : Prop := fnExactSurePairOfColourUptoRow.holds Try.pinned (OpenSpec.upto fnExactSurePairOfColourSpec)

/-- 'laws.FnExactSureOfHand', WHERE WHAT IT READS IS OF BULK AT MOST 1048576: true; the input reads as it did. -/
def fnExactSureOfHandUptoRow : OpenClaim := { program := "ytdlififooknddaa", sum := "367af71f2571a670bc294908432aa1b466579b535708ffe95247cd45df42568b", func := "loop.example/g01372/laws.FnExactSureOfHand", spec := "fnExactSureOfHand", unfollowed := true, recurses := true, apart := false, narrowed := true }
def FnExactSureOfHandUptoSaid : Prop := fnExactSureOfHandUptoRow.holds Try.pinned (OpenSpec.upto fnExactSureOfHandSpec)

/-- 'laws.FnExactWaysToDraw', WHERE WHAT IT READS IS OF BULK AT MOST 1048576: true; the input reads as it did. -/
def fnExactWaysToDrawUptoRow : OpenClaim := { program := "ytdlififooknddaa", sum := "367af71f2571a670bc294908432aa1b466579b535708ffe95247cd45df42568b", func := "loop.example/g01372/laws.FnExactWaysToDraw", spec := "fnExactWaysToDraw", unfollowed := true, recurses := true, apart := false, narrowed := true }
def FnExactWaysToDrawUptoSaid : Prop := fnExactWaysToDrawUptoRow.holds Try.pinned (OpenSpec.upto fnExactWaysToDrawSpec)

/-- 'laws.FnExactMeanOfColour', WHERE WHAT IT READS IS OF BULK AT MOST 1048576: true; the input reads as it did. -/
def fnExactMeanOfColourUptoRow : OpenClaim := { program := "ytdlififooknddaa", sum := "367af71f2571a670bc294908432aa1b466579b535708ffe95247cd45df42568b", func := "loop.example/g01372/laws.FnExactMeanOfColour", spec := "fnExactMeanOfColour", unfollowed := true, recurses := true, apart := false, narrowed := true }
def FnExactMeanOfColourUptoSaid : Prop := fnExactMeanOfColourUptoRow.holds Try.pinned (OpenSpec.upto fnExactMeanOfColourSpec)

/-- 'laws.FnExactChanceTogether', WHERE WHAT IT READS IS OF BULK AT MOST 1048576: true; the input reads as it did. -/
def fnExactChanceTogetherUptoRow : OpenClaim := { program := "ytdlififooknddaa", sum := "367af71f2571a670bc294908432aa1b466579b535708ffe95247cd45df42568b", func := "loop.example/g01372/laws.FnExactChanceTogether", spec := "fnExactChanceTogether", unfollowed := true, recurses := true, apart := false, narrowed := true }
def FnExactChanceTogetherUptoSaid : Prop := fnExactChanceTogetherUptoRow.holds Try.pinned (OpenSpec.upto fnExactChanceTogetherSpec)

/-- 'laws.FnExactChanceOfColour', WHERE WHAT IT READS IS OF BULK AT MOST 1048576: true; the input reads as it did. -/
def fnExactChanceOfColourUptoRow : OpenClaim := { program := "ytdlififooknddaa", sum := "367af71f2571a670bc294908432aa1b466579b535708ffe95247cd45df42568b", func := "loop.example/g01372/laws.FnExactChanceOfColour", spec := "fnExactChanceOfColour", unfollowed := true, recurses := true, apart := false, narrowed := true }
def FnExactChanceOfColourUptoSaid : Prop := fnExactChanceOfColourUptoRow.holds Try.pinned (OpenSpec.upto fnExactChanceOfColourSpec)

/-- 'laws.FnExactChanceNextPair', WHERE WHAT IT READS IS OF BULK AT MOST 1048576: true; the input reads as it did. -/
def fnExactChanceNextPairUptoRow : OpenClaim := { program := "ytdlififooknddaa", sum := "367af71f2571a670bc294908432aa1b466579b535708ffe95247cd45df42568b", func := "loop.example/g01372/laws.FnExactChanceNextPair", spec := "fnExactChanceNextPair", unfollowed := true, recurses := true, apart := false, narrowed := true }
def FnExactChanceNextPairUptoSaid : Prop := fnExactChanceNextPairUptoRow.holds Try.pinned (OpenSpec.upto fnExactChanceNextPairSpec)

/-- 'laws.FnExactChanceOfDraw', WHERE WHAT IT READS IS OF BULK AT MOST 1048576: true; the input reads as it did. -/
def fnExactChanceOfDrawUptoRow : OpenClaim := { program := "ytdlififooknddaa", sum := "367af71f2571a670bc294908432aa1b466579b535708ffe95247cd45df42568b", func := "loop.example/g01372/laws.FnExactChanceOfDraw", spec := "fnExactChanceOfDraw", unfollowed := true, recurses := true, apart := false, narrowed := true }
def FnExactChanceOfDrawUptoSaid : Prop := fnExactChanceOfDrawUptoRow.holds Try.pinned (OpenSpec.upto fnExactChanceOfDrawSpec)

end Rows
end Go.Proofs.Ytdlififooknddaa
