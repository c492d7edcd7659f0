/-
  DERIVED. GIVEN WITH THE SEED: THE CARDS: each row of YtoinhenekeogiaaDoorRows.lean that lists a variable, with what it lists TIED to the program's text (the seventh form; the later family's looks); each row that meets fmt, with fmt's text TOLD by the authors' own Lean function (tested against real Go, not proved from fmt's source: count such statements apart). THE CARD IS WHAT COUNTS. Prove the row's statement (the work); the ties are given (YtoinhenekeogiaaDoorTie.lean); close each card by the builder's one call (the guide's Derived/Test/ToyasCard.lean, 'card_holds'). Laid BY PROGRAM, IN A SANDBOX (cutbox-door.mjs). By AI agents, Wed Nov 11 2026. No macro, syntax, notation, axiom, sorry.
-/
import Derived.Test.YtoinhenekeogiaaDoorRows
import GoSem.ClaimSeven
namespace Go.Proofs.YtoinhenekeogiaaDoor
namespace Rows

/-- THE TIED CARD OF 'headracelaw06.TargetCleans'. -/
def targetCleansCard : Claim7 := { stood := { row := targetCleansRow, standIns := [], harness := (true, "280d564071d42053d2de88023df4f5e3a162a12aa0c14b3bfb73bbb85cf1ce03"), looks := true }, kinds := [], alts := [], laidByText := true, laidKinds := [.data, .data, .data, .data, .sentinel, .sentinel, .pinned], laidTests := true, laidLooks := .later }
def TargetCleansCardSaid : Prop := Claim7.holds Tryd.pinned (.plain (OpenSpec.ofChange targetCleansSpec)) targetCleansCard

/-- THE TIED CARD OF 'headracelaw06.TargetSafe'. -/
def targetSafeCard : Claim7 := { stood := { row := targetSafeRow, standIns := [], harness := (true, "280d564071d42053d2de88023df4f5e3a162a12aa0c14b3bfb73bbb85cf1ce03"), looks := true }, kinds := [], alts := [], laidByText := true, laidKinds := [.data, .data, .data, .data, .sentinel, .sentinel, .pinned], laidTests := true, laidLooks := .later }
def TargetSafeCardSaid : Prop := Claim7.holds Tryd.pinned (.plain (OpenSpec.ofChange targetSafeSpec)) targetSafeCard

/-- THE TIED CARD OF 'headracelaw06.TargetCase'. -/
def targetCaseCard : Claim7 := { stood := { row := targetCaseRow, standIns := [], harness := (true, "280d564071d42053d2de88023df4f5e3a162a12aa0c14b3bfb73bbb85cf1ce03"), looks := true }, kinds := [], alts := [], laidByText := true, laidKinds := [.data, .data, .data, .data, .sentinel, .sentinel, .pinned], laidTests := true, laidLooks := .later }
def TargetCaseCardSaid : Prop := Claim7.holds Tryd.pinned (.plain (OpenSpec.ofChange targetCaseSpec)) targetCaseCard

/-- THE SECOND FORM's CARD OF 'headracelaw06.TargetCleans'. -/
def targetCleansUptoCard : Claim7 := { stood := { row := targetCleansUptoRow, standIns := [], harness := (true, "280d564071d42053d2de88023df4f5e3a162a12aa0c14b3bfb73bbb85cf1ce03"), looks := true }, kinds := [], alts := [], laidByText := true, laidKinds := [.data, .data, .data, .data, .sentinel, .sentinel, .pinned], laidTests := true, laidLooks := .later }
def TargetCleansUptoCardSaid : Prop := Claim7.holds Tryd.pinned (.plain (OpenSpec.upto targetCleansSpec)) targetCleansUptoCard

/-- THE SECOND FORM's CARD OF 'headracelaw06.TargetSafe'. -/
def targetSafeUptoCard : Claim7 := { stood := { row := targetSafeUptoRow, standIns := [], harness := (true, "280d564071d42053d2de88023df4f5e3a162a12aa0c14b3bfb73bbb85cf1ce03"), looks := true }, kinds := [], alts := [], laidByText := true, laidKinds := [.data, .data, .data, .data, .sentinel, .sentinel, .pinned], laidTests := true, laidLooks := .later }
def TargetSafeUptoCardSaid : Prop := Claim7.holds Tryd.pinned (.plain (OpenSpec.upto targetSafeSpec)) targetSafeUptoCard

/-- THE SECOND FORM's CARD OF 'headracelaw06.TargetCase'. -/
def targetCaseUptoCard : Claim7 := { stood := { row := targetCaseUptoRow, standIns := [], harness := (true, "280d564071d42053d2de88023df4f5e3a162a12aa0c14b3bfb73bbb85cf1ce03"), looks := true }, kinds := [], alts := [], laidByText := true, laidKinds := [.data, .data, .data, .data, .sentinel, .sentinel, .pinned], laidTests := true, laidLooks := .later }
def TargetCaseUptoCardSaid : Prop := Claim7.holds Tryd.pinned (.plain (OpenSpec.upto targetCaseSpec)) targetCaseUptoCard
end Rows
end Go.Proofs.YtoinhenekeogiaaDoor
