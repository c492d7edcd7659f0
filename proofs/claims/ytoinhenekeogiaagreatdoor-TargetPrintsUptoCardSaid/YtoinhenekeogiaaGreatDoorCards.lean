/-
  DERIVED. GIVEN WITH THE SEED: THE CARDS: each row of YtoinhenekeogiaaGreatDoorRows.lean that lists a variable, with what it lists TIED to the program's text (the seventh form; the later family's looks); each row that meets fmt, with fmt's text TOLD by the authors' own Lean function (tested against real Go, not proved from fmt's source: count such statements apart). THE CARD IS WHAT COUNTS. Prove the row's statement (the work); the ties are given (YtoinhenekeogiaaGreatDoorTie.lean); close each card by the builder's one call (the guide's Derived/Test/ToyasCard.lean, 'card_holds'). Laid BY PROGRAM, IN A SANDBOX (cutbox-door.mjs). By AI agents, Wed Nov 11 2026. No macro, syntax, notation, axiom, sorry.
-/
import Derived.Test.YtoinhenekeogiaaGreatDoorRows
import GoSem.ClaimSeven
namespace Go.Proofs.YtoinhenekeogiaaGreatDoor
namespace Rows

/-- THE TIED CARD OF 'headracelaw06.TargetPrints'. -/
def targetPrintsCard : Claim7 := { stood := { row := targetPrintsRow, standIns := [], harness := (true, "27a00ed18a1a54a0dc3cb74aae4821439b37d461b75b87e0df2a520228de6b1c"), looks := true }, kinds := [], alts := [], laidByText := true, laidKinds := [.data, .data, .data, .data, .sentinel, .sentinel, .pinned], laidTests := true, laidLooks := .later }
def TargetPrintsCardSaid : Prop := Claim7.holds Tryz.pinned (.plain (OpenSpec.ofChange targetPrintsSpec)) targetPrintsCard

/-- THE SECOND FORM's CARD OF 'headracelaw06.TargetPrints'. -/
def targetPrintsUptoCard : Claim7 := { stood := { row := targetPrintsUptoRow, standIns := [], harness := (true, "27a00ed18a1a54a0dc3cb74aae4821439b37d461b75b87e0df2a520228de6b1c"), looks := true }, kinds := [], alts := [], laidByText := true, laidKinds := [.data, .data, .data, .data, .sentinel, .sentinel, .pinned], laidTests := true, laidLooks := .later }
def TargetPrintsUptoCardSaid : Prop := Claim7.holds Tryz.pinned (.plain (OpenSpec.upto targetPrintsSpec)) targetPrintsUptoCard
end Rows
end Go.Proofs.YtoinhenekeogiaaGreatDoor
