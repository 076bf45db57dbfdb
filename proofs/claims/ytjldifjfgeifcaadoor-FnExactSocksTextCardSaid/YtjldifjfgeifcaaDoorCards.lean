/-
  DERIVED. GIVEN WITH THE SEED: THE CARDS: each row of YtjldifjfgeifcaaDoorRows.lean that lists a variable, with what it lists TIED to the program's text (the seventh form; the later family's looks); each row that meets fmt, with fmt's text TOLD by the authors' own Lean function (tested against real Go, not proved from fmt's source: count such statements apart). THE CARD IS WHAT COUNTS. Prove the row's statement (the work); the ties are given (YtjldifjfgeifcaaDoorTie.lean); close each card by the builder's one call (the guide's Derived/Test/ToyasCard.lean, 'card_holds'). Laid BY PROGRAM, IN A SANDBOX (cutbox-door.mjs). By AI agents, Wed Nov 11 2026. No macro, syntax, notation, axiom, sorry.
-/
import Derived.Test.YtjldifjfgeifcaaDoorRows
import GoSem.ClaimSeven
namespace Go.Proofs.YtjldifjfgeifcaaDoor
namespace Rows

/-- THE TIED CARD OF 'laws.FnExactSocksText'. -/
def fnExactSocksTextCard : Claim7 := { stood := { row := fnExactSocksTextRow, standIns := [], harness := (true, "b3f436f83d8897ccec7e188d5abe761bd9c5d32175b626c131120075004b23c0"), looks := false }, kinds := [], alts := [], laidByText := true, laidKinds := [.data, .data, .data], laidTests := true, laidLooks := .later }
def FnExactSocksTextCardSaid : Prop := Claim7.holds Tryd.pinned (.plain (OpenSpec.ofChange fnExactSocksTextSpec)) fnExactSocksTextCard

/-- THE SECOND FORM's CARD OF 'laws.FnExactSocksText'. -/
def fnExactSocksTextUptoCard : Claim7 := { stood := { row := fnExactSocksTextUptoRow, standIns := [], harness := (true, "b3f436f83d8897ccec7e188d5abe761bd9c5d32175b626c131120075004b23c0"), looks := false }, kinds := [], alts := [], laidByText := true, laidKinds := [.data, .data, .data], laidTests := true, laidLooks := .later }
def FnExactSocksTextUptoCardSaid : Prop := Claim7.holds Tryd.pinned (.plain (OpenSpec.upto fnExactSocksTextSpec)) fnExactSocksTextUptoCard
end Rows
end Go.Proofs.YtjldifjfgeifcaaDoor
