/-
  DERIVED. GIVEN WITH THE SEED: THE CARDS: each row of YtjndgkbikhndoaaGreatDoorRows.lean that lists a variable, with what it lists TIED to the program's text (the seventh form; the later family's looks); each row that meets fmt, with fmt's text TOLD by the authors' own Lean function (tested against real Go, not proved from fmt's source: count such statements apart). THE CARD IS WHAT COUNTS. Prove the row's statement (the work); the ties are given (YtjndgkbikhndoaaGreatDoorTie.lean); close each card by the builder's one call (the guide's Derived/Test/ToyasCard.lean, 'card_holds'). Laid BY PROGRAM, IN A SANDBOX (cutbox-door.mjs). By AI agents, Wed Nov 11 2026. No macro, syntax, notation, axiom, sorry.
-/
import Derived.Test.YtjndgkbikhndoaaGreatDoorRows
import GoSem.ClaimSeven
namespace Go.Proofs.YtjndgkbikhndoaaGreatDoor
namespace Rows

/-- THE TIED CARD OF 'headracelaw14.RouteTakes'. -/
def routeTakesCard : Claim7 := { stood := { row := routeTakesRow, standIns := [], harness := (true, "0cdf5ea651ba6e350f0c9302c51b5d0f822c39bace0fcd243165c62e9d80ec3a"), looks := true }, kinds := [], alts := [], laidByText := true, laidKinds := [.data, .data, .data, .data, .sentinel, .sentinel, .pinned], laidTests := true, laidLooks := .later }
def RouteTakesCardSaid : Prop := Claim7.holds Tryz.pinned (.plain (OpenSpec.ofChange routeTakesSpec)) routeTakesCard

/-- THE TIED CARD OF 'headracelaw13.ConfigRange'. -/
def configRangeCard : Claim7 := { stood := { row := configRangeRow, standIns := [], harness := (true, "0cdf5ea651ba6e350f0c9302c51b5d0f822c39bace0fcd243165c62e9d80ec3a"), looks := true }, kinds := [], alts := [], laidByText := true, laidKinds := [.data, .data, .data, .data, .sentinel, .sentinel, .pinned], laidTests := true, laidLooks := .later }
def ConfigRangeCardSaid : Prop := Claim7.holds Tryz.pinned (.plain (OpenSpec.ofChange configRangeSpec)) configRangeCard

/-- THE TIED CARD OF 'headracelaw13.ConfigTurned'. -/
def configTurnedCard : Claim7 := { stood := { row := configTurnedRow, standIns := [], harness := (true, "0cdf5ea651ba6e350f0c9302c51b5d0f822c39bace0fcd243165c62e9d80ec3a"), looks := true }, kinds := [], alts := [], laidByText := true, laidKinds := [.data, .data, .data, .data, .sentinel, .sentinel, .pinned], laidTests := true, laidLooks := .later }
def ConfigTurnedCardSaid : Prop := Claim7.holds Tryz.pinned (.plain (OpenSpec.ofChange configTurnedSpec)) configTurnedCard

/-- THE TIED CARD OF 'headracelaw13.ConfigChecks'. -/
def configChecksCard : Claim7 := { stood := { row := configChecksRow, standIns := [], harness := (true, "0cdf5ea651ba6e350f0c9302c51b5d0f822c39bace0fcd243165c62e9d80ec3a"), looks := true }, kinds := [], alts := [], laidByText := true, laidKinds := [.data, .data, .data, .data, .sentinel, .sentinel, .pinned], laidTests := true, laidLooks := .later }
def ConfigChecksCardSaid : Prop := Claim7.holds Tryz.pinned (.plain (OpenSpec.ofChange configChecksSpec)) configChecksCard

/-- THE TIED CARD OF 'headracelaw13.ConfigBounds'. -/
def configBoundsCard : Claim7 := { stood := { row := configBoundsRow, standIns := [], harness := (true, "0cdf5ea651ba6e350f0c9302c51b5d0f822c39bace0fcd243165c62e9d80ec3a"), looks := true }, kinds := [], alts := [], laidByText := true, laidKinds := [.data, .data, .data, .data, .sentinel, .sentinel, .pinned], laidTests := true, laidLooks := .later }
def ConfigBoundsCardSaid : Prop := Claim7.holds Tryz.pinned (.plain (OpenSpec.ofChange configBoundsSpec)) configBoundsCard

/-- THE TIED CARD OF 'headracelaw14.RouteBest'. -/
def routeBestCard : Claim7 := { stood := { row := routeBestRow, standIns := [], harness := (true, "0cdf5ea651ba6e350f0c9302c51b5d0f822c39bace0fcd243165c62e9d80ec3a"), looks := true }, kinds := [], alts := [], laidByText := true, laidKinds := [.data, .data, .data, .data, .sentinel, .sentinel, .pinned], laidTests := true, laidLooks := .later }
def RouteBestCardSaid : Prop := Claim7.holds Tryz.pinned (.plain (OpenSpec.ofChange routeBestSpec)) routeBestCard

/-- THE TIED CARD OF 'headracelaw14.RouteIdle'. -/
def routeIdleCard : Claim7 := { stood := { row := routeIdleRow, standIns := [], harness := (true, "0cdf5ea651ba6e350f0c9302c51b5d0f822c39bace0fcd243165c62e9d80ec3a"), looks := true }, kinds := [], alts := [], laidByText := true, laidKinds := [.data, .data, .data, .data, .sentinel, .sentinel, .pinned], laidTests := true, laidLooks := .later }
def RouteIdleCardSaid : Prop := Claim7.holds Tryz.pinned (.plain (OpenSpec.ofChange routeIdleSpec)) routeIdleCard

/-- THE TIED CARD OF 'headracelaw14.RouteMore'. -/
def routeMoreCard : Claim7 := { stood := { row := routeMoreRow, standIns := [], harness := (true, "0cdf5ea651ba6e350f0c9302c51b5d0f822c39bace0fcd243165c62e9d80ec3a"), looks := true }, kinds := [], alts := [], laidByText := true, laidKinds := [.data, .data, .data, .data, .sentinel, .sentinel, .pinned], laidTests := true, laidLooks := .later }
def RouteMoreCardSaid : Prop := Claim7.holds Tryz.pinned (.plain (OpenSpec.ofChange routeMoreSpec)) routeMoreCard

/-- THE SECOND FORM's CARD OF 'headracelaw14.RouteTakes'. -/
def routeTakesUptoCard : Claim7 := { stood := { row := routeTakesUptoRow, standIns := [], harness := (true, "0cdf5ea651ba6e350f0c9302c51b5d0f822c39bace0fcd243165c62e9d80ec3a"), looks := true }, kinds := [], alts := [], laidByText := true, laidKinds := [.data, .data, .data, .data, .sentinel, .sentinel, .pinned], laidTests := true, laidLooks := .later }
def RouteTakesUptoCardSaid : Prop := Claim7.holds Tryz.pinned (.plain (OpenSpec.upto routeTakesSpec)) routeTakesUptoCard

/-- THE SECOND FORM's CARD OF 'headracelaw13.ConfigRange'. -/
def configRangeUptoCard : Claim7 := { stood := { row := configRangeUptoRow, standIns := [], harness := (true, "0cdf5ea651ba6e350f0c9302c51b5d0f822c39bace0fcd243165c62e9d80ec3a"), looks := true }, kinds := [], alts := [], laidByText := true, laidKinds := [.data, .data, .data, .data, .sentinel, .sentinel, .pinned], laidTests := true, laidLooks := .later }
def ConfigRangeUptoCardSaid : Prop := Claim7.holds Tryz.pinned (.plain (OpenSpec.upto configRangeSpec)) configRangeUptoCard

/-- THE SECOND FORM's CARD OF 'headracelaw13.ConfigTurned'. -/
def configTurnedUptoCard : Claim7 := { stood := { row := configTurnedUptoRow, standIns := [], harness := (true, "0cdf5ea651ba6e350f0c9302c51b5d0f822c39bace0fcd243165c62e9d80ec3a"), looks := true }, kinds := [], alts := [], laidByText := true, laidKinds := [.data, .data, .data, .data, .sentinel, .sentinel, .pinned], laidTests := true, laidLooks := .later }
def ConfigTurnedUptoCardSaid : Prop := Claim7.holds Tryz.pinned (.plain (OpenSpec.upto configTurnedSpec)) configTurnedUptoCard

/-- THE SECOND FORM's CARD OF 'headracelaw13.ConfigChecks'. -/
def configChecksUptoCard : Claim7 := { stood := { row := configChecksUptoRow, standIns := [], harness := (true, "0cdf5ea651ba6e350f0c9302c51b5d0f822c39bace0fcd243165c62e9d80ec3a"), looks := true }, kinds := [], alts := [], laidByText := true, laidKinds := [.data, .data, .data, .data, .sentinel, .sentinel, .pinned], laidTests := true, laidLooks := .later }
def ConfigChecksUptoCardSaid : Prop := Claim7.holds Tryz.pinned (.plain (OpenSpec.upto configChecksSpec)) configChecksUptoCard

/-- THE SECOND FORM's CARD OF 'headracelaw13.ConfigBounds'. -/
def configBoundsUptoCard : Claim7 := { stood := { row := configBoundsUptoRow, standIns := [], harness := (true, "0cdf5ea651ba6e350f0c9302c51b5d0f822c39bace0fcd243165c62e9d80ec3a"), looks := true }, kinds := [], alts := [], laidByText := true, laidKinds := [.data, .data, .data, .data, .sentinel, .sentinel, .pinned], laidTests := true, laidLooks := .later }
def ConfigBoundsUptoCardSaid : Prop := Claim7.holds Tryz.pinned (.plain (OpenSpec.upto configBoundsSpec)) configBoundsUptoCard

/-- THE SECOND FORM's CARD OF 'headracelaw14.RouteBest'. -/
def routeBestUptoCard : Claim7 := { stood := { row := routeBestUptoRow, standIns := [], harness := (true, "0cdf5ea651ba6e350f0c9302c51b5d0f822c39bace0fcd243165c62e9d80ec3a"), looks := true }, kinds := [], alts := [], laidByText := true, laidKinds := [.data, .data, .data, .data, .sentinel, .sentinel, .pinned], laidTests := true, laidLooks := .later }
def RouteBestUptoCardSaid : Prop := Claim7.holds Tryz.pinned (.plain (OpenSpec.upto routeBestSpec)) routeBestUptoCard

/-- THE SECOND FORM's CARD OF 'headracelaw14.RouteIdle'. -/
def routeIdleUptoCard : Claim7 := { stood := { row := routeIdleUptoRow, standIns := [], harness := (true, "0cdf5ea651ba6e350f0c9302c51b5d0f822c39bace0fcd243165c62e9d80ec3a"), looks := true }, kinds := [], alts := [], laidByText := true, laidKinds := [.data, .data, .data, .data, .sentinel, .sentinel, .pinned], laidTests := true, laidLooks := .later }
def RouteIdleUptoCardSaid : Prop := Claim7.holds Tryz.pinned (.plain (OpenSpec.upto routeIdleSpec)) routeIdleUptoCard

/-- THE SECOND FORM's CARD OF 'headracelaw14.RouteMore'. -/
def routeMoreUptoCard : Claim7 := { stood := { row := routeMoreUptoRow, standIns := [], harness := (true, "0cdf5ea651ba6e350f0c9302c51b5d0f822c39bace0fcd243165c62e9d80ec3a"), looks := true }, kinds := [], alts := [], laidByText := true, laidKinds := [.data, .data, .data, .data, .sentinel, .sentinel, .pinned], laidTests := true, laidLooks := .later }
def RouteMoreUptoCardSaid : Prop := Claim7.holds Tryz.pinned (.plain (OpenSpec.upto routeMoreSpec)) routeMoreUptoCard
end Rows
end Go.Proofs.YtjndgkbikhndoaaGreatDoor
