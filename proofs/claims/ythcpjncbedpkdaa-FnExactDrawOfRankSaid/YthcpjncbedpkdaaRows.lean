/-
  No cell of these rows narrows 'for every input' (looked for: loops, veiled, ifaces, maps, wideKeys, modest, calm, conditions, laid).
  DERIVED. THE GIVEN ROWS OF THIS SEAT. 5 by the template 'for every input the law returns true; each argument reads behind the call as it read before'; 0 by the template 'total and deterministic' (their statements: YthcpjncbedpkdaaTotals.lean).
  GIVEN WITH THE SEED: the statements are not yours to turn. If you find one false, say at which input.
  Laid BY PROGRAM, IN A SANDBOX (cutbox-rows.mjs): the forced cells as the released guide's own fill.sh prints them over the translation 22a0dd9a3c26a48a… (all of the seat's roots in one cut). By AI agents, Wed Nov 11 2026. No macro, syntax, notation, axiom, sorry.
-/
import Derived.Test.YthcpjncbedpkdaaChecked
import GoSem.Claim
import GoSem.ClaimJoined
import GoSem.ClaimMapViews
import Derived.JoinedTies
import Derived.KernelRfl
namespace Go.Proofs.Ythcpjncbedpkdaa
/- THE CELL 'sum', in the pinned program and in every row, IS THE sha256 OF THE DUMP (.gsa) THAT YthcpjncbedpkdaaProg.lean LOADS. Nothing in Lean hashes anything: it is a label: what it is worth is what the hold of that sum in a sandbox is worth. -/
noncomputable def Try.pinned : Pinned := { name := "ythcpjncbedpkdaa", sum := "22a0dd9a3c26a48a00a1d107e23355d0dbb24c3839338649b6c92ef094eebca4", checked := Try.checked }
namespace Rows
def none {H : Type} : Left H := { results := [], args := [] }

/-- 'laws.FnChancesWhole': WHATEVER THE INPUT: true; the input reads as it did. -/
def fnChancesWholeSpec : ChangeSpec := { name := "fnChancesWhole", fn := fun _ => fun
  | [d1, d2] => { results := [.lit (.bool true)], args := [d1, d2] }
  | _ => none }
def fnChancesWholeRow : OpenClaim := { program := "ythcpjncbedpkdaa", sum := "22a0dd9a3c26a48a00a1d107e23355d0dbb24c3839338649b6c92ef094eebca4", func := "loop.example/g01372/laws.FnChancesWhole", spec := "fnChancesWhole", unfollowed := true, recurses := true, apart := false }
def FnChancesWholeSaid : Prop := fnChancesWholeRow.holds Try.pinned (OpenSpec.ofChange fnChancesWholeSpec)

/-- ITS FALSE NEIGHBOUR: 'it returns false'. Refute it at one input. -/
def fnChancesWholeWrong : ChangeSpec := { name := "fnChancesWhole", fn := fun _ => fun
  | [d1, d2] => { results := [.lit (.bool false)], args := [d1, d2] }
  | _ => none }
def FnChancesWholeWrongFalsely : Prop := fnChancesWholeRow.holds Try.pinned (OpenSpec.ofChange fnChancesWholeWrong)

/-- 'laws.FnExactCountDraws': WHATEVER THE INPUT: true; the input reads as it did. -/
def fnExactCountDrawsSpec : ChangeSpec := { name := "fnExactCountDraws", fn := fun _ => fun
  | [d1, d2] => { results := [.lit (.bool true)], args := [d1, d2] }
  | _ => none }
def fnExactCountDrawsRow : OpenClaim := { program := "ythcpjncbedpkdaa", sum := "22a0dd9a3c26a48a00a1d107e23355d0dbb24c3839338649b6c92ef094eebca4", func := "loop.example/g01372/laws.FnExactCountDraws", spec := "fnExactCountDraws", unfollowed := true, recurses := true, apart := false }
def FnExactCountDrawsSaid : Prop := fnExactCountDrawsRow.holds Try.pinned (OpenSpec.ofChange fnExactCountDrawsSpec)

/-- ITS FALSE NEIGHBOUR: 'it returns false'. Refute it at one input. -/
def fnExactCountDrawsWrong : ChangeSpec := { name := "fnExactCountDraws", fn := fun _ => fun
  | [d1, d2] => { results := [.lit (.bool false)], args := [d1, d2] }
  | _ => none }
def FnExactCountDrawsWrongFalsely : Prop := fnExactCountDrawsRow.holds Try.pinned (OpenSpec.ofChange fnExactCountDrawsWrong)

/-- 'laws.FnExactCountPairDraws': WHATEVER THE INPUT: true; the input reads as it did. -/
def fnExactCountPairDrawsSpec : ChangeSpec := { name := "fnExactCountPairDraws", fn := fun _ => fun
  | [d1, d2, d3] => { results := [.lit (.bool true)], args := [d1, d2, d3] }
  | _ => none }
def fnExactCountPairDrawsRow : OpenClaim := { program := "ythcpjncbedpkdaa", sum := "22a0dd9a3c26a48a00a1d107e23355d0dbb24c3839338649b6c92ef094eebca4", func := "loop.example/g01372/laws.FnExactCountPairDraws", spec := "fnExactCountPairDraws", unfollowed := true, recurses := true, apart := false }
def FnExactCountPairDrawsSaid : Prop := fnExactCountPairDrawsRow.holds Try.pinned (OpenSpec.ofChange fnExactCountPairDrawsSpec)

/-- ITS FALSE NEIGHBOUR: 'it returns false'. Refute it at one input. -/
def fnExactCountPairDrawsWrong : ChangeSpec := { name := "fnExactCountPairDraws", fn := fun _ => fun
  | [d1, d2, d3] => { results := [.lit (.bool false)], args := [d1, d2, d3] }
  | _ => none }
def FnExactCountPairDrawsWrongFalsely : Prop := fnExactCountPairDrawsRow.holds Try.pinned (OpenSpec.ofChange fnExactCountPairDrawsWrong)

/-- 'laws.FnExactRankOfDraw': WHATEVER THE INPUT: true; the input reads as it did. -/
def fnExactRankOfDrawSpec : ChangeSpec := { name := "fnExactRankOfDraw", fn := fun _ => fun
  | [d1, d2] => { results := [.lit (.bool true)], args := [d1, d2] }
  | _ => none }
def fnExactRankOfDrawRow : OpenClaim := { program := "ythcpjncbedpkdaa", sum := "22a0dd9a3c26a48a00a1d107e23355d0dbb24c3839338649b6c92ef094eebca4", func := "loop.example/g01372/laws.FnExactRankOfDraw", spec := "fnExactRankOfDraw", unfollowed := true, recurses := true, apart := false }
def FnExactRankOfDrawSaid : Prop := fnExactRankOfDrawRow.holds Try.pinned (OpenSpec.ofChange fnExactRankOfDrawSpec)

/-- ITS FALSE NEIGHBOUR: 'it returns false'. Refute it at one input. -/
def fnExactRankOfDrawWrong : ChangeSpec := { name := "fnExactRankOfDraw", fn := fun _ => fun
  | [d1, d2] => { results := [.lit (.bool false)], args := [d1, d2] }
  | _ => none }
def FnExactRankOfDrawWrongFalsely : Prop := fnExactRankOfDrawRow.holds Try.pinned (OpenSpec.ofChange fnExactRankOfDrawWrong)

/-- 'laws.FnExactDrawOfRank': WHATEVER THE INPUT: true; the input reads as it did. -/
def fnExactDrawOfRankSpec : ChangeSpec := { name := "fnExactDrawOfRank", fn := fun _ => fun
  | [d1, d2, d3] => { results := [.lit (.bool true)], args := [d1, d2, d3] }
  | _ => none }
def fnExactDrawOfRankRow : OpenClaim := { program := "ythcpjncbedpkdaa", sum := "22a0dd9a3c26a48a00a1d107e23355d0dbb24c3839338649b6c92ef094eebca4", func := "loop.example/g01372/laws.FnExactDrawOfRank", spec := "fnExactDrawOfRank", unfollowed := true, recurses := true, apart := false }
def FnExactDrawOfRankSaid : Prop := fnExactDrawOfRankRow.holds Try.pinned (OpenSpec.ofChange fnExactDrawOfRankSpec)

/-- ITS FALSE NEIGHBOUR: 'it returns false'. Refute it at one input. -/
def fnExactDrawOfRankWrong : ChangeSpec := { name := "fnExactDrawOfRank", fn := fun _ => fun
  | [d1, d2, d3] => { results := [.lit (.bool false)], args := [d1, d2, d3] }
  | _ => none }
def FnExactDrawOfRankWrongFalsely : Prop := fnExactDrawOfRankRow.holds Try.pinned (OpenSpec.ofChange fnExactDrawOfRankWrong)

/- THE SECOND FORM. 'bulk': how many values and letters a reading holds, each counted each time it is reached (what is shared counts as often as it is met; a slice's spare places count too). A statement '..UptoSaid' is the law's where the arguments, and the package variables that the reading takes, are together of bulk at most 1048576: NARROWER than '..Said'. Prove '..Said' where nothing that the law and all that it calls make is longer than what came in: it says more and counts as full. Else prove '..UptoSaid'. A law counts once. -/
mutual
def uptoBulk {H : Type} : DataW H → Nat
  | .lit (.string bytes) => bytes.length + 1
  | .lit _ => 1
  | .nil => 1
  | .ptr d => uptoBulk d + 1
  | .slice elems spare => uptoBulkAll elems + uptoBulkAll spare + 1
  | .agg parts => uptoBulkAll parts + 1
  | .iface _ d => uptoBulk d + 1
  | .map entries => uptoBulkEntries entries + 1
  | .held _ => 1
def uptoBulkAll {H : Type} : List (DataW H) → Nat
  | [] => 0
  | d :: r => uptoBulk d + uptoBulkAll r
def uptoBulkEntries {H : Type} : List (Lit × DataW H) → Nat
  | [] => 0
  | x :: r => uptoBulkEntry x + uptoBulkEntries r
def uptoBulkEntry {H : Type} : Lit × DataW H → Nat
  | (.string bytes, d) => bytes.length + uptoBulk d + 1
  | (_, d) => uptoBulk d + 1
 end
def uptoSmall : (H : Type) → List (DataW H) → Bool := fun _ ds => decide (uptoBulkAll ds ≤ 1048576)
def OpenSpec.upto (s : _root_.Go.ChangeSpec) : _root_.Go.OpenSpec := { _root_.Go.OpenSpec.ofChange s with cond := some uptoSmall }

/-- 'laws.FnChancesWhole', WHERE WHAT IT READS IS OF BULK AT MOST 1048576: true; the input reads as it did. -/
def fnChancesWholeUptoRow : OpenClaim := { program := "ythcpjncbedpkdaa", sum := "22a0dd9a3c26a48a00a1d107e23355d0dbb24c3839338649b6c92ef094eebca4", func := "loop.example/g01372/laws.FnChancesWhole", spec := "fnChancesWhole", unfollowed := true, recurses := true, apart := false, narrowed := true }
def FnChancesWholeUptoSaid : Prop := fnChancesWholeUptoRow.holds Try.pinned (OpenSpec.upto fnChancesWholeSpec)

/-- 'laws.FnExactCountDraws', WHERE WHAT IT READS IS OF BULK AT MOST 1048576: true; the input reads as it did. -/
def fnExactCountDrawsUptoRow : OpenClaim := { program := "ythcpjncbedpkdaa", sum := "22a0dd9a3c26a48a00a1d107e23355d0dbb24c3839338649b6c92ef094eebca4", func := "loop.example/g01372/laws.FnExactCountDraws", spec := "fnExactCountDraws", unfollowed := true, recurses := true, apart := false, narrowed := true }
def FnExactCountDrawsUptoSaid : Prop := fnExactCountDrawsUptoRow.holds Try.pinned (OpenSpec.upto fnExactCountDrawsSpec)

/-- 'laws.FnExactCountPairDraws', WHERE WHAT IT READS IS OF BULK AT MOST 1048576: true; the input reads as it did. -/
def fnExactCountPairDrawsUptoRow : OpenClaim := { program := "ythcpjncbedpkdaa", sum := "22a0dd9a3c26a48a00a1d107e23355d0dbb24c3839338649b6c92ef094eebca4", func := "loop.example/g01372/laws.FnExactCountPairDraws", spec := "fnExactCountPairDraws", unfollowed := true, recurses := true, apart := false, narrowed := true }
def FnExactCountPairDrawsUptoSaid : Prop := fnExactCountPairDrawsUptoRow.holds Try.pinned (OpenSpec.upto fnExactCountPairDrawsSpec)

/-- 'laws.FnExactRankOfDraw', WHERE WHAT IT READS IS OF BULK AT MOST 1048576: true; the input reads as it did. -/
def fnExactRankOfDrawUptoRow : OpenClaim := { program := "ythcpjncbedpkdaa", sum := "22a0dd9a3c26a48a00a1d107e23355d0dbb24c3839338649b6c92ef094eebca4", func := "loop.example/g01372/laws.FnExactRankOfDraw", spec := "fnExactRankOfDraw", unfollowed := true, recurses := true, apart := false, narrowed := true }
def FnExactRankOfDrawUptoSaid : Prop := fnExactRankOfDrawUptoRow.holds Try.pinned (OpenSpec.upto fnExactRankOfDrawSpec)

/-- 'laws.FnExactDrawOfRank', WHERE WHAT IT READS IS OF BULK AT MOST 1048576: true; the input reads as it did. -/
def fnExactDrawOfRankUptoRow : OpenClaim := { program := "ythcpjncbedpkdaa", sum := "22a0dd9a3c26a48a00a1d107e23355d0dbb24c3839338649b6c92ef094eebca4", func := "loop.example/g01372/laws.FnExactDrawOfRank", spec := "fnExactDrawOfRank", unfollowed := true, recurses := true, apart := false, narrowed := true }
def FnExactDrawOfRankUptoSaid : Prop := fnExactDrawOfRankUptoRow.holds Try.pinned (OpenSpec.upto fnExactDrawOfRankSpec)

end Rows
end Go.Proofs.Ythcpjncbedpkdaa
