/-
  DERIVED. GIVEN WITH THE SEED: THE CARDS: each row of YtiimofejcakgoaaDoorRows.lean that lists a variable, with what it lists TIED to the program's text (the seventh form; the later family's looks); each row that meets fmt, with fmt's text TOLD by the authors' own Lean function (tested against real Go, not proved from fmt's source: count such statements apart). THE CARD IS WHAT COUNTS. Prove the row's statement (the work); the ties are given (YtiimofejcakgoaaDoorTie.lean); close each card by the builder's one call (the guide's Derived/Test/ToyasCard.lean, 'card_holds'). Laid BY PROGRAM, IN A SANDBOX (cutbox-door.mjs). By AI agents, Wed Nov 11 2026. No macro, syntax, notation, axiom, sorry.
-/
import Derived.Test.YtiimofejcakgoaaDoorRows
import GoSem.ClaimSeven
namespace Go.Proofs.YtiimofejcakgoaaDoor
namespace Rows

/-- THE TIED CARD OF 'headracelaw07.FieldsTell'. -/
def fieldsTellCard : Claim7 := { stood := { row := fieldsTellRow, standIns := [], harness := (true, "85bde6c6d14c7b85ae707ee973f486f328e6a5e9d7b8fcb3969b632dd62ed00c"), looks := false }, kinds := [], alts := [], laidByText := true, laidKinds := [.data, .data, .data, .data, .pinned], laidTests := true, laidLooks := .later }
def FieldsTellCardSaid : Prop := Claim7.holds Tryd.pinned (.plain (OpenSpec.ofChange fieldsTellSpec)) fieldsTellCard

/-- THE TIED CARD OF 'headracelaw07.FieldsStrip'. -/
def fieldsStripCard : Claim7 := { stood := { row := fieldsStripRow, standIns := [], harness := (true, "85bde6c6d14c7b85ae707ee973f486f328e6a5e9d7b8fcb3969b632dd62ed00c"), looks := false }, kinds := [], alts := [], laidByText := true, laidKinds := [.data, .data, .data, .data, .pinned], laidTests := true, laidLooks := .later }
def FieldsStripCardSaid : Prop := Claim7.holds Tryd.pinned (.plain (OpenSpec.ofChange fieldsStripSpec)) fieldsStripCard

/-- THE TIED CARD OF 'headracelaw07.FieldsParted'. -/
def fieldsPartedCard : Claim7 := { stood := { row := fieldsPartedRow, standIns := [], harness := (true, "85bde6c6d14c7b85ae707ee973f486f328e6a5e9d7b8fcb3969b632dd62ed00c"), looks := false }, kinds := [], alts := [], laidByText := true, laidKinds := [.data, .data, .data, .data, .pinned], laidTests := true, laidLooks := .later }
def FieldsPartedCardSaid : Prop := Claim7.holds Tryd.pinned (.plain (OpenSpec.ofChange fieldsPartedSpec)) fieldsPartedCard

/-- THE TIED CARD OF 'headracelaw07.FieldsChange'. -/
def fieldsChangeCard : Claim7 := { stood := { row := fieldsChangeRow, standIns := [], harness := (true, "85bde6c6d14c7b85ae707ee973f486f328e6a5e9d7b8fcb3969b632dd62ed00c"), looks := false }, kinds := [], alts := [], laidByText := true, laidKinds := [.data, .data, .data, .data, .pinned], laidTests := true, laidLooks := .later }
def FieldsChangeCardSaid : Prop := Claim7.holds Tryd.pinned (.plain (OpenSpec.ofChange fieldsChangeSpec)) fieldsChangeCard

/-- THE TIED CARD OF 'headracelaw07.FieldsSet'. -/
def fieldsSetCard : Claim7 := { stood := { row := fieldsSetRow, standIns := [], harness := (true, "85bde6c6d14c7b85ae707ee973f486f328e6a5e9d7b8fcb3969b632dd62ed00c"), looks := false }, kinds := [], alts := [], laidByText := true, laidKinds := [.data, .data, .data, .data, .pinned], laidTests := true, laidLooks := .later }
def FieldsSetCardSaid : Prop := Claim7.holds Tryd.pinned (.plain (OpenSpec.ofChange fieldsSetSpec)) fieldsSetCard

/-- THE SECOND FORM's CARD OF 'headracelaw07.FieldsTell'. -/
def fieldsTellUptoCard : Claim7 := { stood := { row := fieldsTellUptoRow, standIns := [], harness := (true, "85bde6c6d14c7b85ae707ee973f486f328e6a5e9d7b8fcb3969b632dd62ed00c"), looks := false }, kinds := [], alts := [], laidByText := true, laidKinds := [.data, .data, .data, .data, .pinned], laidTests := true, laidLooks := .later }
def FieldsTellUptoCardSaid : Prop := Claim7.holds Tryd.pinned (.plain (OpenSpec.upto fieldsTellSpec)) fieldsTellUptoCard

/-- THE SECOND FORM's CARD OF 'headracelaw07.FieldsStrip'. -/
def fieldsStripUptoCard : Claim7 := { stood := { row := fieldsStripUptoRow, standIns := [], harness := (true, "85bde6c6d14c7b85ae707ee973f486f328e6a5e9d7b8fcb3969b632dd62ed00c"), looks := false }, kinds := [], alts := [], laidByText := true, laidKinds := [.data, .data, .data, .data, .pinned], laidTests := true, laidLooks := .later }
def FieldsStripUptoCardSaid : Prop := Claim7.holds Tryd.pinned (.plain (OpenSpec.upto fieldsStripSpec)) fieldsStripUptoCard

/-- THE SECOND FORM's CARD OF 'headracelaw07.FieldsParted'. -/
def fieldsPartedUptoCard : Claim7 := { stood := { row := fieldsPartedUptoRow, standIns := [], harness := (true, "85bde6c6d14c7b85ae707ee973f486f328e6a5e9d7b8fcb3969b632dd62ed00c"), looks := false }, kinds := [], alts := [], laidByText := true, laidKinds := [.data, .data, .data, .data, .pinned], laidTests := true, laidLooks := .later }
def FieldsPartedUptoCardSaid : Prop := Claim7.holds Tryd.pinned (.plain (OpenSpec.upto fieldsPartedSpec)) fieldsPartedUptoCard

/-- THE SECOND FORM's CARD OF 'headracelaw07.FieldsChange'. -/
def fieldsChangeUptoCard : Claim7 := { stood := { row := fieldsChangeUptoRow, standIns := [], harness := (true, "85bde6c6d14c7b85ae707ee973f486f328e6a5e9d7b8fcb3969b632dd62ed00c"), looks := false }, kinds := [], alts := [], laidByText := true, laidKinds := [.data, .data, .data, .data, .pinned], laidTests := true, laidLooks := .later }
def FieldsChangeUptoCardSaid : Prop := Claim7.holds Tryd.pinned (.plain (OpenSpec.upto fieldsChangeSpec)) fieldsChangeUptoCard

/-- THE SECOND FORM's CARD OF 'headracelaw07.FieldsSet'. -/
def fieldsSetUptoCard : Claim7 := { stood := { row := fieldsSetUptoRow, standIns := [], harness := (true, "85bde6c6d14c7b85ae707ee973f486f328e6a5e9d7b8fcb3969b632dd62ed00c"), looks := false }, kinds := [], alts := [], laidByText := true, laidKinds := [.data, .data, .data, .data, .pinned], laidTests := true, laidLooks := .later }
def FieldsSetUptoCardSaid : Prop := Claim7.holds Tryd.pinned (.plain (OpenSpec.upto fieldsSetSpec)) fieldsSetUptoCard
end Rows
end Go.Proofs.YtiimofejcakgoaaDoor
