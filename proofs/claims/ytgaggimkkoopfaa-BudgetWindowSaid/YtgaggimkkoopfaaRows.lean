/-
  No cell of these rows narrows 'for every input' (looked for: loops, veiled, ifaces, maps, wideKeys, modest, calm, conditions, laid).
  DERIVED. THE GIVEN ROWS OF THIS SEAT. 10 by the template 'for every input the law returns true; each argument reads behind the call as it read before'; 0 by the template 'total and deterministic' (their statements: YtgaggimkkoopfaaTotals.lean).
  GIVEN WITH THE SEED: the statements are not yours to turn. If you find one false, say at which input.
  Laid BY PROGRAM, IN A SANDBOX (cutbox-rows.mjs): the forced cells as the released guide's own fill.sh prints them over the translation efa5dfe8e51dca70… (all of the seat's roots in one cut). By AI agents, Wed Nov 11 2026. No macro, syntax, notation, axiom, sorry.
-/
import Derived.Test.YtgaggimkkoopfaaChecked
import GoSem.Claim
import GoSem.ClaimJoined
import GoSem.ClaimMapViews
import Derived.JoinedTies
import Derived.KernelRfl
namespace Go.Proofs.Ytgaggimkkoopfaa
/- THE CELL 'sum', in the pinned program and in every row, IS THE sha256 OF THE DUMP (.gsa) THAT YtgaggimkkoopfaaProg.lean LOADS. Nothing in Lean hashes anything: it is a label: what it is worth is what the hold of that sum in a sandbox is worth. -/
noncomputable def Try.pinned : Pinned := { name := "ytgaggimkkoopfaa", sum := "efa5dfe8e51dca7061f71540ccdfe7d24fee4da85c4494bee272a1995d383a16", checked := Try.checked }
namespace Rows
def none {H : Type} : Left H := { results := [], args := [] }

/-- 'headracelaw01.TickFirst': WHATEVER THE INPUT: true; the input reads as it did. -/
def tickFirstSpec : ChangeSpec := { name := "tickFirst", fn := fun _ => fun
  | [d] => { results := [.lit (.bool true)], args := [d] }
  | _ => none }
def tickFirstRow : OpenClaim := { program := "ytgaggimkkoopfaa", sum := "efa5dfe8e51dca7061f71540ccdfe7d24fee4da85c4494bee272a1995d383a16", func := "headrace/headracelaw01.TickFirst", spec := "tickFirst", apart := false }
def TickFirstSaid : Prop := tickFirstRow.holds Try.pinned (OpenSpec.ofChange tickFirstSpec)

/-- ITS FALSE NEIGHBOUR: 'it returns false'. Refute it at one input. -/
def tickFirstWrong : ChangeSpec := { name := "tickFirst", fn := fun _ => fun
  | [d] => { results := [.lit (.bool false)], args := [d] }
  | _ => none }
def TickFirstWrongFalsely : Prop := tickFirstRow.holds Try.pinned (OpenSpec.ofChange tickFirstWrong)

/-- 'headracelaw01.TickParts': WHATEVER THE INPUT: true; the input reads as it did. -/
def tickPartsSpec : ChangeSpec := { name := "tickParts", fn := fun _ => fun
  | [d1, d2, d3] => { results := [.lit (.bool true)], args := [d1, d2, d3] }
  | _ => none }
def tickPartsRow : OpenClaim := { program := "ytgaggimkkoopfaa", sum := "efa5dfe8e51dca7061f71540ccdfe7d24fee4da85c4494bee272a1995d383a16", func := "headrace/headracelaw01.TickParts", spec := "tickParts", apart := false }
def TickPartsSaid : Prop := tickPartsRow.holds Try.pinned (OpenSpec.ofChange tickPartsSpec)

/-- ITS FALSE NEIGHBOUR: 'it returns false'. Refute it at one input. -/
def tickPartsWrong : ChangeSpec := { name := "tickParts", fn := fun _ => fun
  | [d1, d2, d3] => { results := [.lit (.bool false)], args := [d1, d2, d3] }
  | _ => none }
def TickPartsWrongFalsely : Prop := tickPartsRow.holds Try.pinned (OpenSpec.ofChange tickPartsWrong)

/-- 'headracelaw01.TickNil': WHATEVER THE INPUT: true; the input reads as it did. -/
def tickNilSpec : ChangeSpec := { name := "tickNil", fn := fun _ => fun
  | [d] => { results := [.lit (.bool true)], args := [d] }
  | _ => none }
def tickNilRow : OpenClaim := { program := "ytgaggimkkoopfaa", sum := "efa5dfe8e51dca7061f71540ccdfe7d24fee4da85c4494bee272a1995d383a16", func := "headrace/headracelaw01.TickNil", spec := "tickNil", apart := false }
def TickNilSaid : Prop := tickNilRow.holds Try.pinned (OpenSpec.ofChange tickNilSpec)

/-- ITS FALSE NEIGHBOUR: 'it returns false'. Refute it at one input. -/
def tickNilWrong : ChangeSpec := { name := "tickNil", fn := fun _ => fun
  | [d] => { results := [.lit (.bool false)], args := [d] }
  | _ => none }
def TickNilWrongFalsely : Prop := tickNilRow.holds Try.pinned (OpenSpec.ofChange tickNilWrong)

/-- 'headracelaw01.TickAdds': WHATEVER THE INPUT: true; the input reads as it did. -/
def tickAddsSpec : ChangeSpec := { name := "tickAdds", fn := fun _ => fun
  | [d1, d2] => { results := [.lit (.bool true)], args := [d1, d2] }
  | _ => none }
def tickAddsRow : OpenClaim := { program := "ytgaggimkkoopfaa", sum := "efa5dfe8e51dca7061f71540ccdfe7d24fee4da85c4494bee272a1995d383a16", func := "headrace/headracelaw01.TickAdds", spec := "tickAdds", apart := false }
def TickAddsSaid : Prop := tickAddsRow.holds Try.pinned (OpenSpec.ofChange tickAddsSpec)

/-- ITS FALSE NEIGHBOUR: 'it returns false'. Refute it at one input. -/
def tickAddsWrong : ChangeSpec := { name := "tickAdds", fn := fun _ => fun
  | [d1, d2] => { results := [.lit (.bool false)], args := [d1, d2] }
  | _ => none }
def TickAddsWrongFalsely : Prop := tickAddsRow.holds Try.pinned (OpenSpec.ofChange tickAddsWrong)

/-- 'headracelaw01.TickOrder': WHATEVER THE INPUT: true; the input reads as it did. -/
def tickOrderSpec : ChangeSpec := { name := "tickOrder", fn := fun _ => fun
  | [d1, d2, d3] => { results := [.lit (.bool true)], args := [d1, d2, d3] }
  | _ => none }
def tickOrderRow : OpenClaim := { program := "ytgaggimkkoopfaa", sum := "efa5dfe8e51dca7061f71540ccdfe7d24fee4da85c4494bee272a1995d383a16", func := "headrace/headracelaw01.TickOrder", spec := "tickOrder", apart := false }
def TickOrderSaid : Prop := tickOrderRow.holds Try.pinned (OpenSpec.ofChange tickOrderSpec)

/-- ITS FALSE NEIGHBOUR: 'it returns false'. Refute it at one input. -/
def tickOrderWrong : ChangeSpec := { name := "tickOrder", fn := fun _ => fun
  | [d1, d2, d3] => { results := [.lit (.bool false)], args := [d1, d2, d3] }
  | _ => none }
def TickOrderWrongFalsely : Prop := tickOrderRow.holds Try.pinned (OpenSpec.ofChange tickOrderWrong)

/-- 'headracelaw01.TickClock': WHATEVER THE INPUT: true; the input reads as it did. -/
def tickClockSpec : ChangeSpec := { name := "tickClock", fn := fun _ => fun
  | [d1, d2] => { results := [.lit (.bool true)], args := [d1, d2] }
  | _ => none }
def tickClockRow : OpenClaim := { program := "ytgaggimkkoopfaa", sum := "efa5dfe8e51dca7061f71540ccdfe7d24fee4da85c4494bee272a1995d383a16", func := "headrace/headracelaw01.TickClock", spec := "tickClock", apart := false }
def TickClockSaid : Prop := tickClockRow.holds Try.pinned (OpenSpec.ofChange tickClockSpec)

/-- ITS FALSE NEIGHBOUR: 'it returns false'. Refute it at one input. -/
def tickClockWrong : ChangeSpec := { name := "tickClock", fn := fun _ => fun
  | [d1, d2] => { results := [.lit (.bool false)], args := [d1, d2] }
  | _ => none }
def TickClockWrongFalsely : Prop := tickClockRow.holds Try.pinned (OpenSpec.ofChange tickClockWrong)

/-- 'headracelaw17.BudgetSteps': WHATEVER THE INPUT: true; the input reads as it did. -/
def budgetStepsSpec : ChangeSpec := { name := "budgetSteps", fn := fun _ => fun
  | [d1, d2] => { results := [.lit (.bool true)], args := [d1, d2] }
  | _ => none }
def budgetStepsRow : OpenClaim := { program := "ytgaggimkkoopfaa", sum := "efa5dfe8e51dca7061f71540ccdfe7d24fee4da85c4494bee272a1995d383a16", func := "headrace/headracelaw17.BudgetSteps", spec := "budgetSteps", apart := false }
def BudgetStepsSaid : Prop := budgetStepsRow.holds Try.pinned (OpenSpec.ofChange budgetStepsSpec)

/-- ITS FALSE NEIGHBOUR: 'it returns false'. Refute it at one input. -/
def budgetStepsWrong : ChangeSpec := { name := "budgetSteps", fn := fun _ => fun
  | [d1, d2] => { results := [.lit (.bool false)], args := [d1, d2] }
  | _ => none }
def BudgetStepsWrongFalsely : Prop := budgetStepsRow.holds Try.pinned (OpenSpec.ofChange budgetStepsWrong)

/-- 'headracelaw17.BudgetWindow': WHATEVER THE INPUT: true; the input reads as it did. -/
def budgetWindowSpec : ChangeSpec := { name := "budgetWindow", fn := fun _ => fun
  | [d1, d2] => { results := [.lit (.bool true)], args := [d1, d2] }
  | _ => none }
def budgetWindowRow : OpenClaim := { program := "ytgaggimkkoopfaa", sum := "efa5dfe8e51dca7061f71540ccdfe7d24fee4da85c4494bee272a1995d383a16", func := "headrace/headracelaw17.BudgetWindow", spec := "budgetWindow", apart := false }
def BudgetWindowSaid : Prop := budgetWindowRow.holds Try.pinned (OpenSpec.ofChange budgetWindowSpec)

/-- ITS FALSE NEIGHBOUR: 'it returns false'. Refute it at one input. -/
def budgetWindowWrong : ChangeSpec := { name := "budgetWindow", fn := fun _ => fun
  | [d1, d2] => { results := [.lit (.bool false)], args := [d1, d2] }
  | _ => none }
def BudgetWindowWrongFalsely : Prop := budgetWindowRow.holds Try.pinned (OpenSpec.ofChange budgetWindowWrong)

/-- 'headracelaw17.BudgetNil': WHATEVER THE INPUT: true; the input reads as it did. -/
def budgetNilSpec : ChangeSpec := { name := "budgetNil", fn := fun _ => fun
  | [d] => { results := [.lit (.bool true)], args := [d] }
  | _ => none }
def budgetNilRow : OpenClaim := { program := "ytgaggimkkoopfaa", sum := "efa5dfe8e51dca7061f71540ccdfe7d24fee4da85c4494bee272a1995d383a16", func := "headrace/headracelaw17.BudgetNil", spec := "budgetNil", apart := false }
def BudgetNilSaid : Prop := budgetNilRow.holds Try.pinned (OpenSpec.ofChange budgetNilSpec)

/-- ITS FALSE NEIGHBOUR: 'it returns false'. Refute it at one input. -/
def budgetNilWrong : ChangeSpec := { name := "budgetNil", fn := fun _ => fun
  | [d] => { results := [.lit (.bool false)], args := [d] }
  | _ => none }
def BudgetNilWrongFalsely : Prop := budgetNilRow.holds Try.pinned (OpenSpec.ofChange budgetNilWrong)

/-- 'headracelaw17.BudgetMore': WHATEVER THE INPUT: true; the input reads as it did. -/
def budgetMoreSpec : ChangeSpec := { name := "budgetMore", fn := fun _ => fun
  | [d1, d2, d3] => { results := [.lit (.bool true)], args := [d1, d2, d3] }
  | _ => none }
def budgetMoreRow : OpenClaim := { program := "ytgaggimkkoopfaa", sum := "efa5dfe8e51dca7061f71540ccdfe7d24fee4da85c4494bee272a1995d383a16", func := "headrace/headracelaw17.BudgetMore", spec := "budgetMore", apart := false }
def BudgetMoreSaid : Prop := budgetMoreRow.holds Try.pinned (OpenSpec.ofChange budgetMoreSpec)

/-- ITS FALSE NEIGHBOUR: 'it returns false'. Refute it at one input. -/
def budgetMoreWrong : ChangeSpec := { name := "budgetMore", fn := fun _ => fun
  | [d1, d2, d3] => { results := [.lit (.bool false)], args := [d1, d2, d3] }
  | _ => none }
def BudgetMoreWrongFalsely : Prop := budgetMoreRow.holds Try.pinned (OpenSpec.ofChange budgetMoreWrong)

/- THE SECOND FORM. 'bulk': how many values and letters a reading holds, each counted each time it is reached (what is shared counts as often as it is met; a slice's spare places count too). A statement '..UptoSaid' is the law's where the arguments, and the package variables that the reading takes, are together of bulk at most 1048576: NARROWER than '..Said'. Prove '..Said' where nothing that the law and all that it calls make is longer than what came in: it says more and counts as full. Else prove '..UptoSaid'. A law counts once. -/
mutual
def uptoBulk {H : Type} : DataW H → Nat
  | .lit (.string bytes) => bytes.length + 1
  | .lit _ => 1
  | .nil => 1
  | .ptr d => uptoBulk d + 1
  | .slice elems spare => uptoBulkAll elems + uptoBulkAll spare + 1
  | .agg parts => uptoBulkAll parts + 1
  | .iface _ d => uptoBulk d + 1
  | .map entries => uptoBulkEntries entries + 1
  | .held _ => 1
def uptoBulkAll {H : Type} : List (DataW H) → Nat
  | [] => 0
  | d :: r => uptoBulk d + uptoBulkAll r
def uptoBulkEntries {H : Type} : List (Lit × DataW H) → Nat
  | [] => 0
  | x :: r => uptoBulkEntry x + uptoBulkEntries r
def uptoBulkEntry {H : Type} : Lit × DataW H → Nat
  | (.string bytes, d) => bytes.length + uptoBulk d + 1
  | (_, d) => uptoBulk d + 1
 end
def uptoSmall : (H : Type) → List (DataW H) → Bool := fun _ ds => decide (uptoBulkAll ds ≤ 1048576)
def OpenSpec.upto (s : _root_.Go.ChangeSpec) : _root_.Go.OpenSpec := { _root_.Go.OpenSpec.ofChange s with cond := some uptoSmall }

/-- 'headracelaw01.TickFirst', WHERE WHAT IT READS IS OF BULK AT MOST 1048576: true; the input reads as it did. -/
def tickFirstUptoRow : OpenClaim := { program := "ytgaggimkkoopfaa", sum := "efa5dfe8e51dca7061f71540ccdfe7d24fee4da85c4494bee272a1995d383a16", func := "headrace/headracelaw01.TickFirst", spec := "tickFirst", apart := false, narrowed := true }
def TickFirstUptoSaid : Prop := tickFirstUptoRow.holds Try.pinned (OpenSpec.upto tickFirstSpec)

/-- 'headracelaw01.TickParts', WHERE WHAT IT READS IS OF BULK AT MOST 1048576: true; the input reads as it did. -/
def tickPartsUptoRow : OpenClaim := { program := "ytgaggimkkoopfaa", sum := "efa5dfe8e51dca7061f71540ccdfe7d24fee4da85c4494bee272a1995d383a16", func := "headrace/headracelaw01.TickParts", spec := "tickParts", apart := false, narrowed := true }
def TickPartsUptoSaid : Prop := tickPartsUptoRow.holds Try.pinned (OpenSpec.upto tickPartsSpec)

/-- 'headracelaw01.TickNil', WHERE WHAT IT READS IS OF BULK AT MOST 1048576: true; the input reads as it did. -/
def tickNilUptoRow : OpenClaim := { program := "ytgaggimkkoopfaa", sum := "efa5dfe8e51dca7061f71540ccdfe7d24fee4da85c4494bee272a1995d383a16", func := "headrace/headracelaw01.TickNil", spec := "tickNil", apart := false, narrowed := true }
def TickNilUptoSaid : Prop := tickNilUptoRow.holds Try.pinned (OpenSpec.upto tickNilSpec)

/-- 'headracelaw01.TickAdds', WHERE WHAT IT READS IS OF BULK AT MOST 1048576: true; the input reads as it did. -/
def tickAddsUptoRow : OpenClaim := { program := "ytgaggimkkoopfaa", sum := "efa5dfe8e51dca7061f71540ccdfe7d24fee4da85c4494bee272a1995d383a16", func := "headrace/headracelaw01.TickAdds", spec := "tickAdds", apart := false, narrowed := true }
def TickAddsUptoSaid : Prop := tickAddsUptoRow.holds Try.pinned (OpenSpec.upto tickAddsSpec)

/-- 'headracelaw01.TickOrder', WHERE WHAT IT READS IS OF BULK AT MOST 1048576: true; the input reads as it did. -/
def tickOrderUptoRow : OpenClaim := { program := "ytgaggimkkoopfaa", sum := "efa5dfe8e51dca7061f71540ccdfe7d24fee4da85c4494bee272a1995d383a16", func := "headrace/headracelaw01.TickOrder", spec := "tickOrder", apart := false, narrowed := true }
def TickOrderUptoSaid : Prop := tickOrderUptoRow.holds Try.pinned (OpenSpec.upto tickOrderSpec)

/-- 'headracelaw01.TickClock', WHERE WHAT IT READS IS OF BULK AT MOST 1048576: true; the input reads as it did. -/
def tickClockUptoRow : OpenClaim := { program := "ytgaggimkkoopfaa", sum := "efa5dfe8e51dca7061f71540ccdfe7d24fee4da85c4494bee272a1995d383a16", func := "headrace/headracelaw01.TickClock", spec := "tickClock", apart := false, narrowed := true }
def TickClockUptoSaid : Prop := tickClockUptoRow.holds Try.pinned (OpenSpec.upto tickClockSpec)

/-- 'headracelaw17.BudgetSteps', WHERE WHAT IT READS IS OF BULK AT MOST 1048576: true; the input reads as it did. -/
def budgetStepsUptoRow : OpenClaim := { program := "ytgaggimkkoopfaa", sum := "efa5dfe8e51dca7061f71540ccdfe7d24fee4da85c4494bee272a1995d383a16", func := "headrace/headracelaw17.BudgetSteps", spec := "budgetSteps", apart := false, narrowed := true }
def BudgetStepsUptoSaid : Prop := budgetStepsUptoRow.holds Try.pinned (OpenSpec.upto budgetStepsSpec)

/-- 'headracelaw17.BudgetWindow', WHERE WHAT IT READS IS OF BULK AT MOST 1048576: true; the input reads as it did. -/
def budgetWindowUptoRow : OpenClaim := { program := "ytgaggimkkoopfaa", sum := "efa5dfe8e51dca7061f71540ccdfe7d24fee4da85c4494bee272a1995d383a16", func := "headrace/headracelaw17.BudgetWindow", spec := "budgetWindow", apart := false, narrowed := true }
def BudgetWindowUptoSaid : Prop := budgetWindowUptoRow.holds Try.pinned (OpenSpec.upto budgetWindowSpec)

/-- 'headracelaw17.BudgetNil', WHERE WHAT IT READS IS OF BULK AT MOST 1048576: true; the input reads as it did. -/
def budgetNilUptoRow : OpenClaim := { program := "ytgaggimkkoopfaa", sum := "efa5dfe8e51dca7061f71540ccdfe7d24fee4da85c4494bee272a1995d383a16", func := "headrace/headracelaw17.BudgetNil", spec := "budgetNil", apart := false, narrowed := true }
def BudgetNilUptoSaid : Prop := budgetNilUptoRow.holds Try.pinned (OpenSpec.upto budgetNilSpec)

/-- 'headracelaw17.BudgetMore', WHERE WHAT IT READS IS OF BULK AT MOST 1048576: true; the input reads as it did. -/
def budgetMoreUptoRow : OpenClaim := { program := "ytgaggimkkoopfaa", sum := "efa5dfe8e51dca7061f71540ccdfe7d24fee4da85c4494bee272a1995d383a16", func := "headrace/headracelaw17.BudgetMore", spec := "budgetMore", apart := false, narrowed := true }
def BudgetMoreUptoSaid : Prop := budgetMoreUptoRow.holds Try.pinned (OpenSpec.upto budgetMoreSpec)

end Rows
end Go.Proofs.Ytgaggimkkoopfaa
