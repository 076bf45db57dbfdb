/-
  DERIVED. GIVEN WITH THE SEED: THE CARDS: each row of YtakdcikmflpioaaDoorRows.lean that lists a variable, with what it lists TIED to the program's text (the seventh form; the later family's looks); each row that meets fmt, with fmt's text TOLD by the authors' own Lean function (tested against real Go, not proved from fmt's source: count such statements apart). THE CARD IS WHAT COUNTS. Prove the row's statement (the work); the ties are given (YtakdcikmflpioaaDoorTie.lean); close each card by the builder's one call (the guide's Derived/Test/ToyasCard.lean, 'card_holds'). Laid BY PROGRAM, IN A SANDBOX (cutbox-door.mjs). By AI agents, Wed Nov 11 2026. No macro, syntax, notation, axiom, sorry.
-/
import Derived.Test.YtakdcikmflpioaaDoorRows
import GoSem.ClaimSeven
namespace Go.Proofs.YtakdcikmflpioaaDoor
namespace Rows

/-- THE TIED CARD OF 'laws.FnExactGlovesText'. -/
def fnExactGlovesTextCard : Claim7 := { stood := { row := fnExactGlovesTextRow, standIns := [], harness := (true, "910fdbe3f1dd12a79764b754285809749dae51e37d6483ea1b52bd50d2641700"), looks := false }, kinds := [], alts := [], laidByText := true, laidKinds := [.data, .data, .data], laidTests := true, laidLooks := .later }
def FnExactGlovesTextCardSaid : Prop := Claim7.holds Tryd.pinned (.plain (OpenSpec.ofChange fnExactGlovesTextSpec)) fnExactGlovesTextCard

/-- THE SECOND FORM's CARD OF 'laws.FnExactGlovesText'. -/
def fnExactGlovesTextUptoCard : Claim7 := { stood := { row := fnExactGlovesTextUptoRow, standIns := [], harness := (true, "910fdbe3f1dd12a79764b754285809749dae51e37d6483ea1b52bd50d2641700"), looks := false }, kinds := [], alts := [], laidByText := true, laidKinds := [.data, .data, .data], laidTests := true, laidLooks := .later }
def FnExactGlovesTextUptoCardSaid : Prop := Claim7.holds Tryd.pinned (.plain (OpenSpec.upto fnExactGlovesTextSpec)) fnExactGlovesTextUptoCard
end Rows
end Go.Proofs.YtakdcikmflpioaaDoor
