/-
  No cell of these rows narrows 'for every input' (looked for: loops, veiled, ifaces, maps, wideKeys, modest, calm, conditions, laid).
  DERIVED. THE GIVEN ROWS OF THIS SEAT. 12 by the template 'for every input the law returns true; each argument reads behind the call as it read before'; 0 by the template 'total and deterministic' (their statements: YtmgajkllkmmbgaaTotals.lean).
  GIVEN WITH THE SEED: the statements are not yours to turn. If you find one false, say at which input.
  Laid BY PROGRAM, IN A SANDBOX (cutbox-rows.mjs): the forced cells as the released guide's own fill.sh prints them over the translation ee36bcedf6983d92… (all of the seat's roots in one cut). By AI agents, Wed Nov 11 2026. No macro, syntax, notation, axiom, sorry.
-/
import Derived.Test.YtmgajkllkmmbgaaChecked
import GoSem.Claim
import GoSem.ClaimJoined
import GoSem.ClaimMapViews
import Derived.JoinedTies
import Derived.KernelRfl
namespace Go.Proofs.Ytmgajkllkmmbgaa
/- THE CELL 'sum', in the pinned program and in every row, IS THE sha256 OF THE DUMP (.gsa) THAT YtmgajkllkmmbgaaProg.lean LOADS. Nothing in Lean hashes anything: it is a label: what it is worth is what the hold of that sum in a sandbox is worth. -/
noncomputable def Try.pinned : Pinned := { name := "ytmgajkllkmmbgaa", sum := "ee36bcedf6983d92c0bf4f0825830696798f906f98b41aca8d065b1a4dae2862", checked := Try.checked }
namespace Rows
def none {H : Type} : Left H := { results := [], args := [] }

/-- 'laws.FnExactConstants': WHATEVER THE INPUT: true; the input reads as it did. -/
def fnExactConstantsSpec : ChangeSpec := { name := "fnExactConstants", fn := fun _ => fun
  | [] => { results := [.lit (.bool true)], args := [] }
  | _ => none }
def fnExactConstantsRow : OpenClaim := { program := "ytmgajkllkmmbgaa", sum := "ee36bcedf6983d92c0bf4f0825830696798f906f98b41aca8d065b1a4dae2862", func := "loop.example/g01372/laws.FnExactConstants", spec := "fnExactConstants", apart := false }
def FnExactConstantsSaid : Prop := fnExactConstantsRow.holds Try.pinned (OpenSpec.ofChange fnExactConstantsSpec)

/-- ITS FALSE NEIGHBOUR: 'it returns false'. Refute it at one input. -/
def fnExactConstantsWrong : ChangeSpec := { name := "fnExactConstants", fn := fun _ => fun
  | [] => { results := [.lit (.bool false)], args := [] }
  | _ => none }
def FnExactConstantsWrongFalsely : Prop := fnExactConstantsRow.holds Try.pinned (OpenSpec.ofChange fnExactConstantsWrong)

/-- 'laws.FnExactLeastSocks': WHATEVER THE INPUT: true; the input reads as it did. -/
def fnExactLeastSocksSpec : ChangeSpec := { name := "fnExactLeastSocks", fn := fun _ => fun
  | [d1, d2] => { results := [.lit (.bool true)], args := [d1, d2] }
  | _ => none }
def fnExactLeastSocksRow : OpenClaim := { program := "ytmgajkllkmmbgaa", sum := "ee36bcedf6983d92c0bf4f0825830696798f906f98b41aca8d065b1a4dae2862", func := "loop.example/g01372/laws.FnExactLeastSocks", spec := "fnExactLeastSocks", apart := false }
def FnExactLeastSocksSaid : Prop := fnExactLeastSocksRow.holds Try.pinned (OpenSpec.ofChange fnExactLeastSocksSpec)

/-- ITS FALSE NEIGHBOUR: 'it returns false'. Refute it at one input. -/
def fnExactLeastSocksWrong : ChangeSpec := { name := "fnExactLeastSocks", fn := fun _ => fun
  | [d1, d2] => { results := [.lit (.bool false)], args := [d1, d2] }
  | _ => none }
def FnExactLeastSocksWrongFalsely : Prop := fnExactLeastSocksRow.holds Try.pinned (OpenSpec.ofChange fnExactLeastSocksWrong)

/-- 'laws.FnExactAreSocks': WHATEVER THE INPUT: true; the input reads as it did. -/
def fnExactAreSocksSpec : ChangeSpec := { name := "fnExactAreSocks", fn := fun _ => fun
  | [d] => { results := [.lit (.bool true)], args := [d] }
  | _ => none }
def fnExactAreSocksRow : OpenClaim := { program := "ytmgajkllkmmbgaa", sum := "ee36bcedf6983d92c0bf4f0825830696798f906f98b41aca8d065b1a4dae2862", func := "loop.example/g01372/laws.FnExactAreSocks", spec := "fnExactAreSocks", unfollowed := true, recurses := true, apart := false }
def FnExactAreSocksSaid : Prop := fnExactAreSocksRow.holds Try.pinned (OpenSpec.ofChange fnExactAreSocksSpec)

/-- ITS FALSE NEIGHBOUR: 'it returns false'. Refute it at one input. -/
def fnExactAreSocksWrong : ChangeSpec := { name := "fnExactAreSocks", fn := fun _ => fun
  | [d] => { results := [.lit (.bool false)], args := [d] }
  | _ => none }
def FnExactAreSocksWrongFalsely : Prop := fnExactAreSocksRow.holds Try.pinned (OpenSpec.ofChange fnExactAreSocksWrong)

/-- 'laws.FnExactCountSocks': WHATEVER THE INPUT: true; the input reads as it did. -/
def fnExactCountSocksSpec : ChangeSpec := { name := "fnExactCountSocks", fn := fun _ => fun
  | [d] => { results := [.lit (.bool true)], args := [d] }
  | _ => none }
def fnExactCountSocksRow : OpenClaim := { program := "ytmgajkllkmmbgaa", sum := "ee36bcedf6983d92c0bf4f0825830696798f906f98b41aca8d065b1a4dae2862", func := "loop.example/g01372/laws.FnExactCountSocks", spec := "fnExactCountSocks", unfollowed := true, recurses := true, apart := false }
def FnExactCountSocksSaid : Prop := fnExactCountSocksRow.holds Try.pinned (OpenSpec.ofChange fnExactCountSocksSpec)

/-- ITS FALSE NEIGHBOUR: 'it returns false'. Refute it at one input. -/
def fnExactCountSocksWrong : ChangeSpec := { name := "fnExactCountSocks", fn := fun _ => fun
  | [d] => { results := [.lit (.bool false)], args := [d] }
  | _ => none }
def FnExactCountSocksWrongFalsely : Prop := fnExactCountSocksRow.holds Try.pinned (OpenSpec.ofChange fnExactCountSocksWrong)

/-- 'laws.FnExactSureOfColour': WHATEVER THE INPUT: true; the input reads as it did. -/
def fnExactSureOfColourSpec : ChangeSpec := { name := "fnExactSureOfColour", fn := fun _ => fun
  | [d1, d2, d3] => { results := [.lit (.bool true)], args := [d1, d2, d3] }
  | _ => none }
def fnExactSureOfColourRow : OpenClaim := { program := "ytmgajkllkmmbgaa", sum := "ee36bcedf6983d92c0bf4f0825830696798f906f98b41aca8d065b1a4dae2862", func := "loop.example/g01372/laws.FnExactSureOfColour", spec := "fnExactSureOfColour", unfollowed := true, recurses := true, apart := false }
def FnExactSureOfColourSaid : Prop := fnExactSureOfColourRow.holds Try.pinned (OpenSpec.ofChange fnExactSureOfColourSpec)

/-- ITS FALSE NEIGHBOUR: 'it returns false'. Refute it at one input. -/
def fnExactSureOfColourWrong : ChangeSpec := { name := "fnExactSureOfColour", fn := fun _ => fun
  | [d1, d2, d3] => { results := [.lit (.bool false)], args := [d1, d2, d3] }
  | _ => none }
def FnExactSureOfColourWrongFalsely : Prop := fnExactSureOfColourRow.holds Try.pinned (OpenSpec.ofChange fnExactSureOfColourWrong)

/-- 'laws.FnExactSurePairOf': WHATEVER THE INPUT: true; the input reads as it did. -/
def fnExactSurePairOfSpec : ChangeSpec := { name := "fnExactSurePairOf", fn := fun _ => fun
  | [d1, d2] => { results := [.lit (.bool true)], args := [d1, d2] }
  | _ => none }
def fnExactSurePairOfRow : OpenClaim := { program := "ytmgajkllkmmbgaa", sum := "ee36bcedf6983d92c0bf4f0825830696798f906f98b41aca8d065b1a4dae2862", func := "loop.example/g01372/laws.FnExactSurePairOf", spec := "fnExactSurePairOf", unfollowed := true, recurses := true, apart := false }
def FnExactSurePairOfSaid : Prop := fnExactSurePairOfRow.holds Try.pinned (OpenSpec.ofChange fnExactSurePairOfSpec)

/-- ITS FALSE NEIGHBOUR: 'it returns false'. Refute it at one input. -/
def fnExactSurePairOfWrong : ChangeSpec := { name := "fnExactSurePairOf", fn := fun _ => fun
  | [d1, d2] => { results := [.lit (.bool false)], args := [d1, d2] }
  | _ => none }
def FnExactSurePairOfWrongFalsely : Prop := fnExactSurePairOfRow.holds Try.pinned (OpenSpec.ofChange fnExactSurePairOfWrong)

/-- 'laws.FnExactPairsIn': WHATEVER THE INPUT: true; the input reads as it did. -/
def fnExactPairsInSpec : ChangeSpec := { name := "fnExactPairsIn", fn := fun _ => fun
  | [d] => { results := [.lit (.bool true)], args := [d] }
  | _ => none }
def fnExactPairsInRow : OpenClaim := { program := "ytmgajkllkmmbgaa", sum := "ee36bcedf6983d92c0bf4f0825830696798f906f98b41aca8d065b1a4dae2862", func := "loop.example/g01372/laws.FnExactPairsIn", spec := "fnExactPairsIn", unfollowed := true, recurses := true, apart := false }
def FnExactPairsInSaid : Prop := fnExactPairsInRow.holds Try.pinned (OpenSpec.ofChange fnExactPairsInSpec)

/-- ITS FALSE NEIGHBOUR: 'it returns false'. Refute it at one input. -/
def fnExactPairsInWrong : ChangeSpec := { name := "fnExactPairsIn", fn := fun _ => fun
  | [d] => { results := [.lit (.bool false)], args := [d] }
  | _ => none }
def FnExactPairsInWrongFalsely : Prop := fnExactPairsInRow.holds Try.pinned (OpenSpec.ofChange fnExactPairsInWrong)

/-- 'laws.FnExactIsDraw': WHATEVER THE INPUT: true; the input reads as it did. -/
def fnExactIsDrawSpec : ChangeSpec := { name := "fnExactIsDraw", fn := fun _ => fun
  | [d1, d2] => { results := [.lit (.bool true)], args := [d1, d2] }
  | _ => none }
def fnExactIsDrawRow : OpenClaim := { program := "ytmgajkllkmmbgaa", sum := "ee36bcedf6983d92c0bf4f0825830696798f906f98b41aca8d065b1a4dae2862", func := "loop.example/g01372/laws.FnExactIsDraw", spec := "fnExactIsDraw", unfollowed := true, recurses := true, apart := false }
def FnExactIsDrawSaid : Prop := fnExactIsDrawRow.holds Try.pinned (OpenSpec.ofChange fnExactIsDrawSpec)

/-- ITS FALSE NEIGHBOUR: 'it returns false'. Refute it at one input. -/
def fnExactIsDrawWrong : ChangeSpec := { name := "fnExactIsDraw", fn := fun _ => fun
  | [d1, d2] => { results := [.lit (.bool false)], args := [d1, d2] }
  | _ => none }
def FnExactIsDrawWrongFalsely : Prop := fnExactIsDrawRow.holds Try.pinned (OpenSpec.ofChange fnExactIsDrawWrong)

/-- 'laws.FnExactSurePairsLike': WHATEVER THE INPUT: true; the input reads as it did. -/
def fnExactSurePairsLikeSpec : ChangeSpec := { name := "fnExactSurePairsLike", fn := fun _ => fun
  | [d1, d2] => { results := [.lit (.bool true)], args := [d1, d2] }
  | _ => none }
def fnExactSurePairsLikeRow : OpenClaim := { program := "ytmgajkllkmmbgaa", sum := "ee36bcedf6983d92c0bf4f0825830696798f906f98b41aca8d065b1a4dae2862", func := "loop.example/g01372/laws.FnExactSurePairsLike", spec := "fnExactSurePairsLike", unfollowed := true, recurses := true, apart := false }
def FnExactSurePairsLikeSaid : Prop := fnExactSurePairsLikeRow.holds Try.pinned (OpenSpec.ofChange fnExactSurePairsLikeSpec)

/-- ITS FALSE NEIGHBOUR: 'it returns false'. Refute it at one input. -/
def fnExactSurePairsLikeWrong : ChangeSpec := { name := "fnExactSurePairsLike", fn := fun _ => fun
  | [d1, d2] => { results := [.lit (.bool false)], args := [d1, d2] }
  | _ => none }
def FnExactSurePairsLikeWrongFalsely : Prop := fnExactSurePairsLikeRow.holds Try.pinned (OpenSpec.ofChange fnExactSurePairsLikeWrong)

/-- 'laws.FnExactAddSocks': WHATEVER THE INPUT: true; the input reads as it did. -/
def fnExactAddSocksSpec : ChangeSpec := { name := "fnExactAddSocks", fn := fun _ => fun
  | [d1, d2] => { results := [.lit (.bool true)], args := [d1, d2] }
  | _ => none }
def fnExactAddSocksRow : OpenClaim := { program := "ytmgajkllkmmbgaa", sum := "ee36bcedf6983d92c0bf4f0825830696798f906f98b41aca8d065b1a4dae2862", func := "loop.example/g01372/laws.FnExactAddSocks", spec := "fnExactAddSocks", unfollowed := true, recurses := true, apart := false }
def FnExactAddSocksSaid : Prop := fnExactAddSocksRow.holds Try.pinned (OpenSpec.ofChange fnExactAddSocksSpec)

/-- ITS FALSE NEIGHBOUR: 'it returns false'. Refute it at one input. -/
def fnExactAddSocksWrong : ChangeSpec := { name := "fnExactAddSocks", fn := fun _ => fun
  | [d1, d2] => { results := [.lit (.bool false)], args := [d1, d2] }
  | _ => none }
def FnExactAddSocksWrongFalsely : Prop := fnExactAddSocksRow.holds Try.pinned (OpenSpec.ofChange fnExactAddSocksWrong)

/-- 'laws.FnExactPairsOfDraw': WHATEVER THE INPUT: true; the input reads as it did. -/
def fnExactPairsOfDrawSpec : ChangeSpec := { name := "fnExactPairsOfDraw", fn := fun _ => fun
  | [d1, d2] => { results := [.lit (.bool true)], args := [d1, d2] }
  | _ => none }
def fnExactPairsOfDrawRow : OpenClaim := { program := "ytmgajkllkmmbgaa", sum := "ee36bcedf6983d92c0bf4f0825830696798f906f98b41aca8d065b1a4dae2862", func := "loop.example/g01372/laws.FnExactPairsOfDraw", spec := "fnExactPairsOfDraw", unfollowed := true, recurses := true, apart := false }
def FnExactPairsOfDrawSaid : Prop := fnExactPairsOfDrawRow.holds Try.pinned (OpenSpec.ofChange fnExactPairsOfDrawSpec)

/-- ITS FALSE NEIGHBOUR: 'it returns false'. Refute it at one input. -/
def fnExactPairsOfDrawWrong : ChangeSpec := { name := "fnExactPairsOfDraw", fn := fun _ => fun
  | [d1, d2] => { results := [.lit (.bool false)], args := [d1, d2] }
  | _ => none }
def FnExactPairsOfDrawWrongFalsely : Prop := fnExactPairsOfDrawRow.holds Try.pinned (OpenSpec.ofChange fnExactPairsOfDrawWrong)

/-- 'laws.FnExactLeftBehind': WHATEVER THE INPUT: true; the input reads as it did. -/
def fnExactLeftBehindSpec : ChangeSpec := { name := "fnExactLeftBehind", fn := fun _ => fun
  | [d1, d2] => { results := [.lit (.bool true)], args := [d1, d2] }
  | _ => none }
def fnExactLeftBehindRow : OpenClaim := { program := "ytmgajkllkmmbgaa", sum := "ee36bcedf6983d92c0bf4f0825830696798f906f98b41aca8d065b1a4dae2862", func := "loop.example/g01372/laws.FnExactLeftBehind", spec := "fnExactLeftBehind", unfollowed := true, recurses := true, apart := false }
def FnExactLeftBehindSaid : Prop := fnExactLeftBehindRow.holds Try.pinned (OpenSpec.ofChange fnExactLeftBehindSpec)

/-- ITS FALSE NEIGHBOUR: 'it returns false'. Refute it at one input. -/
def fnExactLeftBehindWrong : ChangeSpec := { name := "fnExactLeftBehind", fn := fun _ => fun
  | [d1, d2] => { results := [.lit (.bool false)], args := [d1, d2] }
  | _ => none }
def FnExactLeftBehindWrongFalsely : Prop := fnExactLeftBehindRow.holds Try.pinned (OpenSpec.ofChange fnExactLeftBehindWrong)

/- THE SECOND FORM. 'bulk': how many values and letters a reading holds, each counted each time it is reached (what is shared counts as often as it is met; a slice's spare places count too). A statement '..UptoSaid' is the law's where the arguments, and the package variables that the reading takes, are together of bulk at most 1048576: NARROWER than '..Said'. Prove '..Said' where nothing that the law and all that it calls make is longer than what came in: it says more and counts as full. Else prove '..UptoSaid'. A law counts once. -/
mutual
def uptoBulk {H : Type} : DataW H → Nat
  | .lit (.string bytes) => bytes.length + 1
  | .lit _ => 1
  | .nil => 1
  | .ptr d => uptoBulk d + 1
  | .slice elems spare => uptoBulkAll elems + uptoBulkAll spare + 1
  | .agg parts => uptoBulkAll parts + 1
  | .iface _ d => uptoBulk d + 1
  | .map entries => uptoBulkEntries entries + 1
  | .held _ => 1
def uptoBulkAll {H : Type} : List (DataW H) → Nat
  | [] => 0
  | d :: r => uptoBulk d + uptoBulkAll r
def uptoBulkEntries {H : Type} : List (Lit × DataW H) → Nat
  | [] => 0
  | x :: r => uptoBulkEntry x + uptoBulkEntries r
def uptoBulkEntry {H : Type} : Lit × DataW H → Nat
  | (.string bytes, d) => bytes.length + uptoBulk d + 1
  | (_, d) => uptoBulk d + 1
 end
def uptoSmall : (H : Type) → List (DataW H) → Bool := fun _ ds => decide (uptoBulkAll ds ≤ 1048576)
def OpenSpec.upto (s : _root_.Go.ChangeSpec) : _root_.Go.OpenSpec := { _root_.Go.OpenSpec.ofChange s with cond := some uptoSmall }

/-- 'laws.FnExactConstants', WHERE WHAT IT READS IS OF BULK AT MOST 1048576: true; the input reads as it did. -/
def fnExactConstantsUptoRow : OpenClaim := { program := "ytmgajkllkmmbgaa", sum := "ee36bcedf6983d92c0bf4f0825830696798f906f98b41aca8d065b1a4dae2862", func := "loop.example/g01372/laws.FnExactConstants", spec := "fnExactConstants", apart := false, narrowed := true }
def FnExactConstantsUptoSaid : Prop := fnExactConstantsUptoRow.holds Try.pinned (OpenSpec.upto fnExactConstantsSpec)

/-- 'laws.FnExactLeastSocks', WHERE WHAT IT READS IS OF BULK AT MOST 1048576: true; the input reads as it did. -/
def fnExactLeastSocksUptoRow : OpenClaim := { program := "ytmgajkllkmmbgaa", sum := "ee36bcedf6983d92c0bf4f0825830696798f906f98b41aca8d065b1a4dae2862", func := "loop.example/g01372/laws.FnExactLeastSocks", spec := "fnExactLeastSocks", apart := false, narrowed := true }
def FnExactLeastSocksUptoSaid : Prop := fnExactLeastSocksUptoRow.holds Try.pinned (OpenSpec.upto fnExactLeastSocksSpec)

/-- 'laws.FnExactAreSocks', WHERE WHAT IT READS IS OF BULK AT MOST 1048576: true; the input reads as it did. -/
def fnExactAreSocksUptoRow : OpenClaim := { program := "ytmgajkllkmmbgaa", sum := "ee36bcedf6983d92c0bf4f0825830696798f906f98b41aca8d065b1a4dae2862", func := "loop.example/g01372/laws.FnExactAreSocks", spec := "fnExactAreSocks", unfollowed := true, recurses := true, apart := false, narrowed := true }
def FnExactAreSocksUptoSaid : Prop := fnExactAreSocksUptoRow.holds Try.pinned (OpenSpec.upto fnExactAreSocksSpec)

/-- 'laws.FnExactCountSocks', WHERE WHAT IT READS IS OF BULK AT MOST 1048576: true; the input reads as it did. -/
def fnExactCountSocksUptoRow : OpenClaim := { program := "ytmgajkllkmmbgaa", sum := "ee36bcedf6983d92c0bf4f0825830696798f906f98b41aca8d065b1a4dae2862", func := "loop.example/g01372/laws.FnExactCountSocks", spec := "fnExactCountSocks", unfollowed := true, recurses := true, apart := false, narrowed := true }
def FnExactCountSocksUptoSaid : Prop := fnExactCountSocksUptoRow.holds Try.pinned (OpenSpec.upto fnExactCountSocksSpec)

/-- 'laws.FnExactSureOfColour', WHERE WHAT IT READS IS OF BULK AT MOST 1048576: true; the input reads as it did. -/
def fnExactSureOfColourUptoRow : OpenClaim := { program := "ytmgajkllkmmbgaa", sum := "ee36bcedf6983d92c0bf4f0825830696798f906f98b41aca8d065b1a4dae2862", func := "loop.example/g01372/laws.FnExactSureOfColour", spec := "fnExactSureOfColour", unfollowed := true, recurses := true, apart := false, narrowed := true }
def FnExactSureOfColourUptoSaid : Prop := fnExactSureOfColourUptoRow.holds Try.pinned (OpenSpec.upto fnExactSureOfColourSpec)

/-- 'laws.FnExactSurePairOf', WHERE WHAT IT READS IS OF BULK AT MOST 1048576: true; the input reads as it did. -/
def fnExactSurePairOfUptoRow : OpenClaim := { program := "ytmgajkllkmmbgaa", sum := "ee36bcedf6983d92c0bf4f0825830696798f906f98b41aca8d065b1a4dae2862", func := "loop.example/g01372/laws.FnExactSurePairOf", spec := "fnExactSurePairOf", unfollowed := true, recurses := true, apart := false, narrowed := true }
def FnExactSurePairOfUptoSaid : Prop := fnExactSurePairOfUptoRow.holds Try.pinned (OpenSpec.upto fnExactSurePairOfSpec)

/-- 'laws.FnExactPairsIn', WHERE WHAT IT READS IS OF BULK AT MOST 1048576: true; the input reads as it did. -/
def fnExactPairsInUptoRow : OpenClaim := { program := "ytmgajkllkmmbgaa", sum := "ee36bcedf6983d92c0bf4f0825830696798f906f98b41aca8d065b1a4dae2862", func := "loop.example/g01372/laws.FnExactPairsIn", spec := "fnExactPairsIn", unfollowed := true, recurses := true, apart := false, narrowed := true }
def FnExactPairsInUptoSaid : Prop := fnExactPairsInUptoRow.holds Try.pinned (OpenSpec.upto fnExactPairsInSpec)

/-- 'laws.FnExactIsDraw', WHERE WHAT IT READS IS OF BULK AT MOST 1048576: true; the input reads as it did. -/
def fnExactIsDrawUptoRow : OpenClaim := { program := "ytmgajkllkmmbgaa", sum := "ee36bcedf6983d92c0bf4f0825830696798f906f98b41aca8d065b1a4dae2862", func := "loop.example/g01372/laws.FnExactIsDraw", spec := "fnExactIsDraw", unfollowed := true, recurses := true, apart := false, narrowed := true }
def FnExactIsDrawUptoSaid : Prop := fnExactIsDrawUptoRow.holds Try.pinned (OpenSpec.upto fnExactIsDrawSpec)

/-- 'laws.FnExactSurePairsLike', WHERE WHAT IT READS IS OF BULK AT MOST 1048576: true; the input reads as it did. -/
def fnExactSurePairsLikeUptoRow : OpenClaim := { program := "ytmgajkllkmmbgaa", sum := "ee36bcedf6983d92c0bf4f0825830696798f906f98b41aca8d065b1a4dae2862", func := "loop.example/g01372/laws.FnExactSurePairsLike", spec := "fnExactSurePairsLike", unfollowed := true, recurses := true, apart := false, narrowed := true }
def FnExactSurePairsLikeUptoSaid : Prop := fnExactSurePairsLikeUptoRow.holds Try.pinned (OpenSpec.upto fnExactSurePairsLikeSpec)

/-- 'laws.FnExactAddSocks', WHERE WHAT IT READS IS OF BULK AT MOST 1048576: true; the input reads as it did. -/
def fnExactAddSocksUptoRow : OpenClaim := { program := "ytmgajkllkmmbgaa", sum := "ee36bcedf6983d92c0bf4f0825830696798f906f98b41aca8d065b1a4dae2862", func := "loop.example/g01372/laws.FnExactAddSocks", spec := "fnExactAddSocks", unfollowed := true, recurses := true, apart := false, narrowed := true }
def FnExactAddSocksUptoSaid : Prop := fnExactAddSocksUptoRow.holds Try.pinned (OpenSpec.upto fnExactAddSocksSpec)

/-- 'laws.FnExactPairsOfDraw', WHERE WHAT IT READS IS OF BULK AT MOST 1048576: true; the input reads as it did. -/
def fnExactPairsOfDrawUptoRow : OpenClaim := { program := "ytmgajkllkmmbgaa", sum := "ee36bcedf6983d92c0bf4f0825830696798f906f98b41aca8d065b1a4dae2862", func := "loop.example/g01372/laws.FnExactPairsOfDraw", spec := "fnExactPairsOfDraw", unfollowed := true, recurses := true, apart := false, narrowed := true }
def FnExactPairsOfDrawUptoSaid : Prop := fnExactPairsOfDrawUptoRow.holds Try.pinned (OpenSpec.upto fnExactPairsOfDrawSpec)

/-- 'laws.FnExactLeftBehind', WHERE WHAT IT READS IS OF BULK AT MOST 1048576: true; the input reads as it did. -/
def fnExactLeftBehindUptoRow : OpenClaim := { program := "ytmgajkllkmmbgaa", sum := "ee36bcedf6983d92c0bf4f0825830696798f906f98b41aca8d065b1a4dae2862", func := "loop.example/g01372/laws.FnExactLeftBehind", spec := "fnExactLeftBehind", unfollowed := true, recurses := true, apart := false, narrowed := true }
def FnExactLeftBehindUptoSaid : Prop := fnExactLeftBehindUptoRow.holds Try.pinned (OpenSpec.upto fnExactLeftBehindSpec)

end Rows
end Go.Proofs.Ytmgajkllkmmbgaa
