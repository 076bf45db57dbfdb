/-
  No cell of these rows narrows 'for every input' (looked for: loops, veiled, ifaces, maps, wideKeys, modest, calm, conditions, laid).
  DERIVED. THE GIVEN ROWS OF THIS SEAT. 7 by the template 'for every input the law returns true; each argument reads behind the call as it read before'; 0 by the template 'total and deterministic' (their statements: YtjldifjfgeifcaaTotals.lean).
  GIVEN WITH THE SEED: the statements are not yours to turn. If you find one false, say at which input.
  Laid BY PROGRAM, IN A SANDBOX (cutbox-rows.mjs): the forced cells as the released guide's own fill.sh prints them over the translation 1f05c1a551de0c8a… (all of the seat's roots in one cut). By AI agents, Wed Nov 11 2026. No macro, syntax, notation, axiom, sorry.
-/
import Derived.Test.YtjldifjfgeifcaaChecked
import GoSem.Claim
import GoSem.ClaimJoined
import GoSem.ClaimMapViews
import Derived.JoinedTies
import Derived.KernelRfl
namespace Go.Proofs.Ytjldifjfgeifcaa
/- THE CELL 'sum', in the pinned program and in every row, IS THE sha256 OF THE DUMP (.gsa) THAT YtjldifjfgeifcaaProg.lean LOADS. Nothing in Lean hashes anything: it is a label: what it is worth is what the hold of that sum in a sandbox is worth. -/
noncomputable def Try.pinned : Pinned := { name := "ytjldifjfgeifcaa", sum := "1f05c1a551de0c8a138096c4456d725446decea09613068fee8a7656acb09d70", checked := Try.checked }
namespace Rows
def none {H : Type} : Left H := { results := [], args := [] }

/-- 'laws.FnExactSurePairs': WHATEVER THE INPUT: true; the input reads as it did. -/
def fnExactSurePairsSpec : ChangeSpec := { name := "fnExactSurePairs", fn := fun _ => fun
  | [d1, d2] => { results := [.lit (.bool true)], args := [d1, d2] }
  | _ => none }
def fnExactSurePairsRow : OpenClaim := { program := "ytjldifjfgeifcaa", sum := "1f05c1a551de0c8a138096c4456d725446decea09613068fee8a7656acb09d70", func := "loop.example/g01372/laws.FnExactSurePairs", spec := "fnExactSurePairs", unfollowed := true, recurses := true, apart := false }
def FnExactSurePairsSaid : Prop := fnExactSurePairsRow.holds Try.pinned (OpenSpec.ofChange fnExactSurePairsSpec)

/-- ITS FALSE NEIGHBOUR: 'it returns false'. Refute it at one input. -/
def fnExactSurePairsWrong : ChangeSpec := { name := "fnExactSurePairs", fn := fun _ => fun
  | [d1, d2] => { results := [.lit (.bool false)], args := [d1, d2] }
  | _ => none }
def FnExactSurePairsWrongFalsely : Prop := fnExactSurePairsRow.holds Try.pinned (OpenSpec.ofChange fnExactSurePairsWrong)

/-- 'laws.FnSureExactly': WHATEVER THE INPUT: true; the input reads as it did. -/
def fnSureExactlySpec : ChangeSpec := { name := "fnSureExactly", fn := fun _ => fun
  | [d1, d2, d3] => { results := [.lit (.bool true)], args := [d1, d2, d3] }
  | _ => none }
def fnSureExactlyRow : OpenClaim := { program := "ytjldifjfgeifcaa", sum := "1f05c1a551de0c8a138096c4456d725446decea09613068fee8a7656acb09d70", func := "loop.example/g01372/laws.FnSureExactly", spec := "fnSureExactly", unfollowed := true, recurses := true, apart := false }
def FnSureExactlySaid : Prop := fnSureExactlyRow.holds Try.pinned (OpenSpec.ofChange fnSureExactlySpec)

/-- ITS FALSE NEIGHBOUR: 'it returns false'. Refute it at one input. -/
def fnSureExactlyWrong : ChangeSpec := { name := "fnSureExactly", fn := fun _ => fun
  | [d1, d2, d3] => { results := [.lit (.bool false)], args := [d1, d2, d3] }
  | _ => none }
def FnSureExactlyWrongFalsely : Prop := fnSureExactlyRow.holds Try.pinned (OpenSpec.ofChange fnSureExactlyWrong)

/-- 'laws.FnExactWorstDraw': WHATEVER THE INPUT: true; the input reads as it did. -/
def fnExactWorstDrawSpec : ChangeSpec := { name := "fnExactWorstDraw", fn := fun _ => fun
  | [d1, d2] => { results := [.lit (.bool true)], args := [d1, d2] }
  | _ => none }
def fnExactWorstDrawRow : OpenClaim := { program := "ytjldifjfgeifcaa", sum := "1f05c1a551de0c8a138096c4456d725446decea09613068fee8a7656acb09d70", func := "loop.example/g01372/laws.FnExactWorstDraw", spec := "fnExactWorstDraw", unfollowed := true, recurses := true, apart := false }
def FnExactWorstDrawSaid : Prop := fnExactWorstDrawRow.holds Try.pinned (OpenSpec.ofChange fnExactWorstDrawSpec)

/-- ITS FALSE NEIGHBOUR: 'it returns false'. Refute it at one input. -/
def fnExactWorstDrawWrong : ChangeSpec := { name := "fnExactWorstDraw", fn := fun _ => fun
  | [d1, d2] => { results := [.lit (.bool false)], args := [d1, d2] }
  | _ => none }
def FnExactWorstDrawWrongFalsely : Prop := fnExactWorstDrawRow.holds Try.pinned (OpenSpec.ofChange fnExactWorstDrawWrong)

/-- 'laws.FnExactChanceFirstPairAt': WHATEVER THE INPUT: true; the input reads as it did. -/
def fnExactChanceFirstPairAtSpec : ChangeSpec := { name := "fnExactChanceFirstPairAt", fn := fun _ => fun
  | [d1, d2] => { results := [.lit (.bool true)], args := [d1, d2] }
  | _ => none }
def fnExactChanceFirstPairAtRow : OpenClaim := { program := "ytjldifjfgeifcaa", sum := "1f05c1a551de0c8a138096c4456d725446decea09613068fee8a7656acb09d70", func := "loop.example/g01372/laws.FnExactChanceFirstPairAt", spec := "fnExactChanceFirstPairAt", unfollowed := true, recurses := true, apart := false }
def FnExactChanceFirstPairAtSaid : Prop := fnExactChanceFirstPairAtRow.holds Try.pinned (OpenSpec.ofChange fnExactChanceFirstPairAtSpec)

/-- ITS FALSE NEIGHBOUR: 'it returns false'. Refute it at one input. -/
def fnExactChanceFirstPairAtWrong : ChangeSpec := { name := "fnExactChanceFirstPairAt", fn := fun _ => fun
  | [d1, d2] => { results := [.lit (.bool false)], args := [d1, d2] }
  | _ => none }
def FnExactChanceFirstPairAtWrongFalsely : Prop := fnExactChanceFirstPairAtRow.holds Try.pinned (OpenSpec.ofChange fnExactChanceFirstPairAtWrong)

/-- 'laws.FnExactMeanUntilPair': WHATEVER THE INPUT: true; the input reads as it did. -/
def fnExactMeanUntilPairSpec : ChangeSpec := { name := "fnExactMeanUntilPair", fn := fun _ => fun
  | [d] => { results := [.lit (.bool true)], args := [d] }
  | _ => none }
def fnExactMeanUntilPairRow : OpenClaim := { program := "ytjldifjfgeifcaa", sum := "1f05c1a551de0c8a138096c4456d725446decea09613068fee8a7656acb09d70", func := "loop.example/g01372/laws.FnExactMeanUntilPair", spec := "fnExactMeanUntilPair", unfollowed := true, recurses := true, apart := false }
def FnExactMeanUntilPairSaid : Prop := fnExactMeanUntilPairRow.holds Try.pinned (OpenSpec.ofChange fnExactMeanUntilPairSpec)

/-- ITS FALSE NEIGHBOUR: 'it returns false'. Refute it at one input. -/
def fnExactMeanUntilPairWrong : ChangeSpec := { name := "fnExactMeanUntilPair", fn := fun _ => fun
  | [d] => { results := [.lit (.bool false)], args := [d] }
  | _ => none }
def FnExactMeanUntilPairWrongFalsely : Prop := fnExactMeanUntilPairRow.holds Try.pinned (OpenSpec.ofChange fnExactMeanUntilPairWrong)

/-- 'laws.FnExactSureColours': WHATEVER THE INPUT: true; the input reads as it did. -/
def fnExactSureColoursSpec : ChangeSpec := { name := "fnExactSureColours", fn := fun _ => fun
  | [d1, d2] => { results := [.lit (.bool true)], args := [d1, d2] }
  | _ => none }
def fnExactSureColoursRow : OpenClaim := { program := "ytjldifjfgeifcaa", sum := "1f05c1a551de0c8a138096c4456d725446decea09613068fee8a7656acb09d70", func := "loop.example/g01372/laws.FnExactSureColours", spec := "fnExactSureColours", unfollowed := true, recurses := true, apart := false }
def FnExactSureColoursSaid : Prop := fnExactSureColoursRow.holds Try.pinned (OpenSpec.ofChange fnExactSureColoursSpec)

/-- ITS FALSE NEIGHBOUR: 'it returns false'. Refute it at one input. -/
def fnExactSureColoursWrong : ChangeSpec := { name := "fnExactSureColours", fn := fun _ => fun
  | [d1, d2] => { results := [.lit (.bool false)], args := [d1, d2] }
  | _ => none }
def FnExactSureColoursWrongFalsely : Prop := fnExactSureColoursRow.holds Try.pinned (OpenSpec.ofChange fnExactSureColoursWrong)

/-- 'laws.FnExactBadColours': WHATEVER THE INPUT: true; the input reads as it did. -/
def fnExactBadColoursSpec : ChangeSpec := { name := "fnExactBadColours", fn := fun _ => fun
  | [d1, d2, d3] => { results := [.lit (.bool true)], args := [d1, d2, d3] }
  | _ => none }
def fnExactBadColoursRow : OpenClaim := { program := "ytjldifjfgeifcaa", sum := "1f05c1a551de0c8a138096c4456d725446decea09613068fee8a7656acb09d70", func := "loop.example/g01372/laws.FnExactBadColours", spec := "fnExactBadColours", unfollowed := true, recurses := true, apart := false }
def FnExactBadColoursSaid : Prop := fnExactBadColoursRow.holds Try.pinned (OpenSpec.ofChange fnExactBadColoursSpec)

/-- ITS FALSE NEIGHBOUR: 'it returns false'. Refute it at one input. -/
def fnExactBadColoursWrong : ChangeSpec := { name := "fnExactBadColours", fn := fun _ => fun
  | [d1, d2, d3] => { results := [.lit (.bool false)], args := [d1, d2, d3] }
  | _ => none }
def FnExactBadColoursWrongFalsely : Prop := fnExactBadColoursRow.holds Try.pinned (OpenSpec.ofChange fnExactBadColoursWrong)

/- THE SECOND FORM. 'bulk': how many values and letters a reading holds, each counted each time it is reached (what is shared counts as often as it is met; a slice's spare places count too). A statement '..UptoSaid' is the law's where the arguments, and the package variables that the reading takes, are together of bulk at most 1048576: NARROWER than '..Said'. Prove '..Said' where nothing that the law and all that it calls make is longer than what came in: it says more and counts as full. Else prove '..UptoSaid'. A law counts once. -/
mutual
def uptoBulk {H : Type} : DataW H → Nat
  | .lit (.string bytes) => bytes.length + 1
  | .lit _ => 1
  | .nil => 1
  | .ptr d => uptoBulk d + 1
  | .slice elems spare => uptoBulkAll elems + uptoBulkAll spare + 1
  | .agg parts => uptoBulkAll parts + 1
  | .iface _ d => uptoBulk d + 1
  | .map entries => uptoBulkEntries entries + 1
  | .held _ => 1
def uptoBulkAll {H : Type} : List (DataW H) → Nat
  | [] => 0
  | d :: r => uptoBulk d + uptoBulkAll r
def uptoBulkEntries {H : Type} : List (Lit × DataW H) → Nat
  | [] => 0
  | x :: r => uptoBulkEntry x + uptoBulkEntries r
def uptoBulkEntry {H : Type} : Lit × DataW H → Nat
  | (.string bytes, d) => bytes.length + uptoBulk d + 1
  | (_, d) => uptoBulk d + 1
 end
def uptoSmall : (H : Type) → List (DataW H) → Bool := fun _ ds => decide (uptoBulkAll ds ≤ 1048576)
def OpenSpec.upto (s : _root_.Go.ChangeSpec) : _root_.Go.OpenSpec := { _root_.Go.OpenSpec.ofChange s with cond := some uptoSmall }

/-- 'laws.FnExactSurePairs', WHERE WHAT IT READS IS OF BULK AT MOST 1048576: true; the input reads as it did. -/
def fnExactSurePairsUptoRow : OpenClaim := { program := "ytjldifjfgeifcaa", sum := "1f05c1a551de0c8a138096c4456d725446decea09613068fee8a7656acb09d70", func := "loop.example/g01372/laws.FnExactSurePairs", spec := "fnExactSurePairs", unfollowed := true, recurses := true, apart := false, narrowed := true }
def FnExactSurePairsUptoSaid : Prop := fnExactSurePairsUptoRow.holds Try.pinned (OpenSpec.upto fnExactSurePairsSpec)

/-- 'laws.FnSureExactly', WHERE WHAT IT READS IS OF BULK AT MOST 1048576: true; the input reads as it did. -/
def fnSureExactlyUptoRow : OpenClaim := { program := "ytjldifjfgeifcaa", sum := "1f05c1a551de0c8a138096c4456d725446decea09613068fee8a7656acb09d70", func := "loop.example/g01372/laws.FnSureExactly", spec := "fnSureExactly", unfollowed := true, recurses := true, apart := false, narrowed := true }
def FnSureExactlyUptoSaid : Prop := fnSureExactlyUptoRow.holds Try.pinned (OpenSpec.upto fnSureExactlySpec)

/-- 'laws.FnExactWorstDraw', WHERE WHAT IT READS IS OF BULK AT MOST 1048576: true; the input reads as it did. -/
def fnExactWorstDrawUptoRow : OpenClaim := { program := "ytjldifjfgeifcaa", sum := "1f05c1a551de0c8a138096c4456d725446decea09613068fee8a7656acb09d70", func := "loop.example/g01372/laws.FnExactWorstDraw", spec := "fnExactWorstDraw", unfollowed := true, recurses := true, apart := false, narrowed := true }
def FnExactWorstDrawUptoSaid : Prop := fnExactWorstDrawUptoRow.holds Try.pinned (OpenSpec.upto fnExactWorstDrawSpec)

/-- 'laws.FnExactChanceFirstPairAt', WHERE WHAT IT READS IS OF BULK AT MOST 1048576: true; the input reads as it did. -/
def fnExactChanceFirstPairAtUptoRow : OpenClaim := { program := "ytjldifjfgeifcaa", sum := "1f05c1a551de0c8a138096c4456d725446decea09613068fee8a7656acb09d70", func := "loop.example/g01372/laws.FnExactChanceFirstPairAt", spec := "fnExactChanceFirstPairAt", unfollowed := true, recurses := true, apart := false, narrowed := true }
def FnExactChanceFirstPairAtUptoSaid : Prop := fnExactChanceFirstPairAtUptoRow.holds Try.pinned (OpenSpec.upto fnExactChanceFirstPairAtSpec)

/-- 'laws.FnExactMeanUntilPair', WHERE WHAT IT READS IS OF BULK AT MOST 1048576: true; the input reads as it did. -/
def fnExactMeanUntilPairUptoRow : OpenClaim := { program := "ytjldifjfgeifcaa", sum := "1f05c1a551de0c8a138096c4456d725446decea09613068fee8a7656acb09d70", func := "loop.example/g01372/laws.FnExactMeanUntilPair", spec := "fnExactMeanUntilPair", unfollowed := true, recurses := true, apart := false, narrowed := true }
def FnExactMeanUntilPairUptoSaid : Prop := fnExactMeanUntilPairUptoRow.holds Try.pinned (OpenSpec.upto fnExactMeanUntilPairSpec)

/-- 'laws.FnExactSureColours', WHERE WHAT IT READS IS OF BULK AT MOST 1048576: true; the input reads as it did. -/
def fnExactSureColoursUptoRow : OpenClaim := { program := "ytjldifjfgeifcaa", sum := "1f05c1a551de0c8a138096c4456d725446decea09613068fee8a7656acb09d70", func := "loop.example/g01372/laws.FnExactSureColours", spec := "fnExactSureColours", unfollowed := true, recurses := true, apart := false, narrowed := true }
def FnExactSureColoursUptoSaid : Prop := fnExactSureColoursUptoRow.holds Try.pinned (OpenSpec.upto fnExactSureColoursSpec)

/-- 'laws.FnExactBadColours', WHERE WHAT IT READS IS OF BULK AT MOST 1048576: true; the input reads as it did. -/
def fnExactBadColoursUptoRow : OpenClaim := { program := "ytjldifjfgeifcaa", sum := "1f05c1a551de0c8a138096c4456d725446decea09613068fee8a7656acb09d70", func := "loop.example/g01372/laws.FnExactBadColours", spec := "fnExactBadColours", unfollowed := true, recurses := true, apart := false, narrowed := true }
def FnExactBadColoursUptoSaid : Prop := fnExactBadColoursUptoRow.holds Try.pinned (OpenSpec.upto fnExactBadColoursSpec)

end Rows
end Go.Proofs.Ytjldifjfgeifcaa
