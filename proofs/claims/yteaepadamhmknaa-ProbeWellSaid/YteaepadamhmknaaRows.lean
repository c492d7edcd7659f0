/-
  No cell of these rows narrows 'for every input' (looked for: loops, veiled, ifaces, maps, wideKeys, modest, calm, conditions, laid).
  DERIVED. THE GIVEN ROWS OF THIS SEAT. 9 by the template 'for every input the law returns true; each argument reads behind the call as it read before'; 0 by the template 'total and deterministic' (their statements: YteaepadamhmknaaTotals.lean).
  GIVEN WITH THE SEED: the statements are not yours to turn. If you find one false, say at which input.
  Laid BY PROGRAM, IN A SANDBOX (cutbox-rows.mjs): the forced cells as the released guide's own fill.sh prints them over the translation 0b6152e48f9e2484… (all of the seat's roots in one cut). By AI agents, Wed Nov 11 2026. No macro, syntax, notation, axiom, sorry.
-/
import Derived.Test.YteaepadamhmknaaChecked
import GoSem.Claim
import GoSem.ClaimJoined
import GoSem.ClaimMapViews
import Derived.JoinedTies
import Derived.KernelRfl
namespace Go.Proofs.Yteaepadamhmknaa
/- THE CELL 'sum', in the pinned program and in every row, IS THE sha256 OF THE DUMP (.gsa) THAT YteaepadamhmknaaProg.lean LOADS. Nothing in Lean hashes anything: it is a label: what it is worth is what the hold of that sum in a sandbox is worth. -/
noncomputable def Try.pinned : Pinned := { name := "yteaepadamhmknaa", sum := "0b6152e48f9e2484fcbd3aefaa106d51d51fc33b14fc64c9aa4a2f1529245865", checked := Try.checked }
namespace Rows
def none {H : Type} : Left H := { results := [], args := [] }

/-- 'headracelaw18.HostsShare': WHATEVER THE INPUT: true; the input reads as it did. -/
def hostsShareSpec : ChangeSpec := { name := "hostsShare", fn := fun _ => fun
  | [d1, d2] => { results := [.lit (.bool true)], args := [d1, d2] }
  | _ => none }
def hostsShareRow : OpenClaim := { program := "yteaepadamhmknaa", sum := "0b6152e48f9e2484fcbd3aefaa106d51d51fc33b14fc64c9aa4a2f1529245865", func := "headrace/headracelaw18.HostsShare", spec := "hostsShare", apart := false }
def HostsShareSaid : Prop := hostsShareRow.holds Try.pinned (OpenSpec.ofChange hostsShareSpec)

/-- ITS FALSE NEIGHBOUR: 'it returns false'. Refute it at one input. -/
def hostsShareWrong : ChangeSpec := { name := "hostsShare", fn := fun _ => fun
  | [d1, d2] => { results := [.lit (.bool false)], args := [d1, d2] }
  | _ => none }
def HostsShareWrongFalsely : Prop := hostsShareRow.holds Try.pinned (OpenSpec.ofChange hostsShareWrong)

/-- 'headracelaw18.HostsLonger': WHATEVER THE INPUT: true; the input reads as it did. -/
def hostsLongerSpec : ChangeSpec := { name := "hostsLonger", fn := fun _ => fun
  | [d1, d2] => { results := [.lit (.bool true)], args := [d1, d2] }
  | _ => none }
def hostsLongerRow : OpenClaim := { program := "yteaepadamhmknaa", sum := "0b6152e48f9e2484fcbd3aefaa106d51d51fc33b14fc64c9aa4a2f1529245865", func := "headrace/headracelaw18.HostsLonger", spec := "hostsLonger", apart := false }
def HostsLongerSaid : Prop := hostsLongerRow.holds Try.pinned (OpenSpec.ofChange hostsLongerSpec)

/-- ITS FALSE NEIGHBOUR: 'it returns false'. Refute it at one input. -/
def hostsLongerWrong : ChangeSpec := { name := "hostsLonger", fn := fun _ => fun
  | [d1, d2] => { results := [.lit (.bool false)], args := [d1, d2] }
  | _ => none }
def HostsLongerWrongFalsely : Prop := hostsLongerRow.holds Try.pinned (OpenSpec.ofChange hostsLongerWrong)

/-- 'headracelaw18.HostsWell': WHATEVER THE INPUT: true; the input reads as it did. -/
def hostsWellSpec : ChangeSpec := { name := "hostsWell", fn := fun _ => fun
  | [d1, d2] => { results := [.lit (.bool true)], args := [d1, d2] }
  | _ => none }
def hostsWellRow : OpenClaim := { program := "yteaepadamhmknaa", sum := "0b6152e48f9e2484fcbd3aefaa106d51d51fc33b14fc64c9aa4a2f1529245865", func := "headrace/headracelaw18.HostsWell", spec := "hostsWell", apart := false }
def HostsWellSaid : Prop := hostsWellRow.holds Try.pinned (OpenSpec.ofChange hostsWellSpec)

/-- ITS FALSE NEIGHBOUR: 'it returns false'. Refute it at one input. -/
def hostsWellWrong : ChangeSpec := { name := "hostsWell", fn := fun _ => fun
  | [d1, d2] => { results := [.lit (.bool false)], args := [d1, d2] }
  | _ => none }
def HostsWellWrongFalsely : Prop := hostsWellRow.holds Try.pinned (OpenSpec.ofChange hostsWellWrong)

/-- 'headracelaw18.HostsNil': WHATEVER THE INPUT: true; the input reads as it did. -/
def hostsNilSpec : ChangeSpec := { name := "hostsNil", fn := fun _ => fun
  | [d1, d2] => { results := [.lit (.bool true)], args := [d1, d2] }
  | _ => none }
def hostsNilRow : OpenClaim := { program := "yteaepadamhmknaa", sum := "0b6152e48f9e2484fcbd3aefaa106d51d51fc33b14fc64c9aa4a2f1529245865", func := "headrace/headracelaw18.HostsNil", spec := "hostsNil", apart := false }
def HostsNilSaid : Prop := hostsNilRow.holds Try.pinned (OpenSpec.ofChange hostsNilSpec)

/-- ITS FALSE NEIGHBOUR: 'it returns false'. Refute it at one input. -/
def hostsNilWrong : ChangeSpec := { name := "hostsNil", fn := fun _ => fun
  | [d1, d2] => { results := [.lit (.bool false)], args := [d1, d2] }
  | _ => none }
def HostsNilWrongFalsely : Prop := hostsNilRow.holds Try.pinned (OpenSpec.ofChange hostsNilWrong)

/-- 'headracelaw18.HostsSteps': WHATEVER THE INPUT: true; the input reads as it did. -/
def hostsStepsSpec : ChangeSpec := { name := "hostsSteps", fn := fun _ => fun
  | [d1, d2] => { results := [.lit (.bool true)], args := [d1, d2] }
  | _ => none }
def hostsStepsRow : OpenClaim := { program := "yteaepadamhmknaa", sum := "0b6152e48f9e2484fcbd3aefaa106d51d51fc33b14fc64c9aa4a2f1529245865", func := "headrace/headracelaw18.HostsSteps", spec := "hostsSteps", apart := false }
def HostsStepsSaid : Prop := hostsStepsRow.holds Try.pinned (OpenSpec.ofChange hostsStepsSpec)

/-- ITS FALSE NEIGHBOUR: 'it returns false'. Refute it at one input. -/
def hostsStepsWrong : ChangeSpec := { name := "hostsSteps", fn := fun _ => fun
  | [d1, d2] => { results := [.lit (.bool false)], args := [d1, d2] }
  | _ => none }
def HostsStepsWrongFalsely : Prop := hostsStepsRow.holds Try.pinned (OpenSpec.ofChange hostsStepsWrong)

/-- 'headracelaw19.ProbeOnce': WHATEVER THE INPUT: true; the input reads as it did. -/
def probeOnceSpec : ChangeSpec := { name := "probeOnce", fn := fun _ => fun
  | [d1, d2] => { results := [.lit (.bool true)], args := [d1, d2] }
  | _ => none }
def probeOnceRow : OpenClaim := { program := "yteaepadamhmknaa", sum := "0b6152e48f9e2484fcbd3aefaa106d51d51fc33b14fc64c9aa4a2f1529245865", func := "headrace/headracelaw19.ProbeOnce", spec := "probeOnce", apart := false }
def ProbeOnceSaid : Prop := probeOnceRow.holds Try.pinned (OpenSpec.ofChange probeOnceSpec)

/-- ITS FALSE NEIGHBOUR: 'it returns false'. Refute it at one input. -/
def probeOnceWrong : ChangeSpec := { name := "probeOnce", fn := fun _ => fun
  | [d1, d2] => { results := [.lit (.bool false)], args := [d1, d2] }
  | _ => none }
def ProbeOnceWrongFalsely : Prop := probeOnceRow.holds Try.pinned (OpenSpec.ofChange probeOnceWrong)

/-- 'headracelaw19.ProbeTurns': WHATEVER THE INPUT: true; the input reads as it did. -/
def probeTurnsSpec : ChangeSpec := { name := "probeTurns", fn := fun _ => fun
  | [d1, d2] => { results := [.lit (.bool true)], args := [d1, d2] }
  | _ => none }
def probeTurnsRow : OpenClaim := { program := "yteaepadamhmknaa", sum := "0b6152e48f9e2484fcbd3aefaa106d51d51fc33b14fc64c9aa4a2f1529245865", func := "headrace/headracelaw19.ProbeTurns", spec := "probeTurns", apart := false }
def ProbeTurnsSaid : Prop := probeTurnsRow.holds Try.pinned (OpenSpec.ofChange probeTurnsSpec)

/-- ITS FALSE NEIGHBOUR: 'it returns false'. Refute it at one input. -/
def probeTurnsWrong : ChangeSpec := { name := "probeTurns", fn := fun _ => fun
  | [d1, d2] => { results := [.lit (.bool false)], args := [d1, d2] }
  | _ => none }
def ProbeTurnsWrongFalsely : Prop := probeTurnsRow.holds Try.pinned (OpenSpec.ofChange probeTurnsWrong)

/-- 'headracelaw19.ProbeNil': WHATEVER THE INPUT: true; the input reads as it did. -/
def probeNilSpec : ChangeSpec := { name := "probeNil", fn := fun _ => fun
  | [d1, d2] => { results := [.lit (.bool true)], args := [d1, d2] }
  | _ => none }
def probeNilRow : OpenClaim := { program := "yteaepadamhmknaa", sum := "0b6152e48f9e2484fcbd3aefaa106d51d51fc33b14fc64c9aa4a2f1529245865", func := "headrace/headracelaw19.ProbeNil", spec := "probeNil", apart := false }
def ProbeNilSaid : Prop := probeNilRow.holds Try.pinned (OpenSpec.ofChange probeNilSpec)

/-- ITS FALSE NEIGHBOUR: 'it returns false'. Refute it at one input. -/
def probeNilWrong : ChangeSpec := { name := "probeNil", fn := fun _ => fun
  | [d1, d2] => { results := [.lit (.bool false)], args := [d1, d2] }
  | _ => none }
def ProbeNilWrongFalsely : Prop := probeNilRow.holds Try.pinned (OpenSpec.ofChange probeNilWrong)

/-- 'headracelaw19.ProbeWell': WHATEVER THE INPUT: true; the input reads as it did. -/
def probeWellSpec : ChangeSpec := { name := "probeWell", fn := fun _ => fun
  | [d1, d2, d3] => { results := [.lit (.bool true)], args := [d1, d2, d3] }
  | _ => none }
def probeWellRow : OpenClaim := { program := "yteaepadamhmknaa", sum := "0b6152e48f9e2484fcbd3aefaa106d51d51fc33b14fc64c9aa4a2f1529245865", func := "headrace/headracelaw19.ProbeWell", spec := "probeWell", apart := false }
def ProbeWellSaid : Prop := probeWellRow.holds Try.pinned (OpenSpec.ofChange probeWellSpec)

/-- ITS FALSE NEIGHBOUR: 'it returns false'. Refute it at one input. -/
def probeWellWrong : ChangeSpec := { name := "probeWell", fn := fun _ => fun
  | [d1, d2, d3] => { results := [.lit (.bool false)], args := [d1, d2, d3] }
  | _ => none }
def ProbeWellWrongFalsely : Prop := probeWellRow.holds Try.pinned (OpenSpec.ofChange probeWellWrong)

/- THE SECOND FORM. 'bulk': how many values and letters a reading holds, each counted each time it is reached (what is shared counts as often as it is met; a slice's spare places count too). A statement '..UptoSaid' is the law's where the arguments, and the package variables that the reading takes, are together of bulk at most 1048576: NARROWER than '..Said'. Prove '..Said' where nothing that the law and all that it calls make is longer than what came in: it says more and counts as full. Else prove '..UptoSaid'. A law counts once. -/
mutual
def uptoBulk {H : Type} : DataW H → Nat
  | .lit (.string bytes) => bytes.length + 1
  | .lit _ => 1
  | .nil => 1
  | .ptr d => uptoBulk d + 1
  | .slice elems spare => uptoBulkAll elems + uptoBulkAll spare + 1
  | .agg parts => uptoBulkAll parts + 1
  | .iface _ d => uptoBulk d + 1
  | .map entries => uptoBulkEntries entries + 1
  | .held _ => 1
def uptoBulkAll {H : Type} : List (DataW H) → Nat
  | [] => 0
  | d :: r => uptoBulk d + uptoBulkAll r
def uptoBulkEntries {H : Type} : List (Lit × DataW H) → Nat
  | [] => 0
  | x :: r => uptoBulkEntry x + uptoBulkEntries r
def uptoBulkEntry {H : Type} : Lit × DataW H → Nat
  | (.string bytes, d) => bytes.length + uptoBulk d + 1
  | (_, d) => uptoBulk d + 1
 end
def uptoSmall : (H : Type) → List (DataW H) → Bool := fun _ ds => decide (uptoBulkAll ds ≤ 1048576)
def OpenSpec.upto (s : _root_.Go.ChangeSpec) : _root_.Go.OpenSpec := { _root_.Go.OpenSpec.ofChange s with cond := some uptoSmall }

/-- 'headracelaw18.HostsShare', WHERE WHAT IT READS IS OF BULK AT MOST 1048576: true; the input reads as it did. -/
def hostsShareUptoRow : OpenClaim := { program := "yteaepadamhmknaa", sum := "0b6152e48f9e2484fcbd3aefaa106d51d51fc33b14fc64c9aa4a2f1529245865", func := "headrace/headracelaw18.HostsShare", spec := "hostsShare", apart := false, narrowed := true }
def HostsShareUptoSaid : Prop := hostsShareUptoRow.holds Try.pinned (OpenSpec.upto hostsShareSpec)

/-- 'headracelaw18.HostsLonger', WHERE WHAT IT READS IS OF BULK AT MOST 1048576: true; the input reads as it did. -/
def hostsLongerUptoRow : OpenClaim := { program := "yteaepadamhmknaa", sum := "0b6152e48f9e2484fcbd3aefaa106d51d51fc33b14fc64c9aa4a2f1529245865", func := "headrace/headracelaw18.HostsLonger", spec := "hostsLonger", apart := false, narrowed := true }
def HostsLongerUptoSaid : Prop := hostsLongerUptoRow.holds Try.pinned (OpenSpec.upto hostsLongerSpec)

/-- 'headracelaw18.HostsWell', WHERE WHAT IT READS IS OF BULK AT MOST 1048576: true; the input reads as it did. -/
def hostsWellUptoRow : OpenClaim := { program := "yteaepadamhmknaa", sum := "0b6152e48f9e2484fcbd3aefaa106d51d51fc33b14fc64c9aa4a2f1529245865", func := "headrace/headracelaw18.HostsWell", spec := "hostsWell", apart := false, narrowed := true }
def HostsWellUptoSaid : Prop := hostsWellUptoRow.holds Try.pinned (OpenSpec.upto hostsWellSpec)

/-- 'headracelaw18.HostsNil', WHERE WHAT IT READS IS OF BULK AT MOST 1048576: true; the input reads as it did. -/
def hostsNilUptoRow : OpenClaim := { program := "yteaepadamhmknaa", sum := "0b6152e48f9e2484fcbd3aefaa106d51d51fc33b14fc64c9aa4a2f1529245865", func := "headrace/headracelaw18.HostsNil", spec := "hostsNil", apart := false, narrowed := true }
def HostsNilUptoSaid : Prop := hostsNilUptoRow.holds Try.pinned (OpenSpec.upto hostsNilSpec)

/-- 'headracelaw18.HostsSteps', WHERE WHAT IT READS IS OF BULK AT MOST 1048576: true; the input reads as it did. -/
def hostsStepsUptoRow : OpenClaim := { program := "yteaepadamhmknaa", sum := "0b6152e48f9e2484fcbd3aefaa106d51d51fc33b14fc64c9aa4a2f1529245865", func := "headrace/headracelaw18.HostsSteps", spec := "hostsSteps", apart := false, narrowed := true }
def HostsStepsUptoSaid : Prop := hostsStepsUptoRow.holds Try.pinned (OpenSpec.upto hostsStepsSpec)

/-- 'headracelaw19.ProbeOnce', WHERE WHAT IT READS IS OF BULK AT MOST 1048576: true; the input reads as it did. -/
def probeOnceUptoRow : OpenClaim := { program := "yteaepadamhmknaa", sum := "0b6152e48f9e2484fcbd3aefaa106d51d51fc33b14fc64c9aa4a2f1529245865", func := "headrace/headracelaw19.ProbeOnce", spec := "probeOnce", apart := false, narrowed := true }
def ProbeOnceUptoSaid : Prop := probeOnceUptoRow.holds Try.pinned (OpenSpec.upto probeOnceSpec)

/-- 'headracelaw19.ProbeTurns', WHERE WHAT IT READS IS OF BULK AT MOST 1048576: true; the input reads as it did. -/
def probeTurnsUptoRow : OpenClaim := { program := "yteaepadamhmknaa", sum := "0b6152e48f9e2484fcbd3aefaa106d51d51fc33b14fc64c9aa4a2f1529245865", func := "headrace/headracelaw19.ProbeTurns", spec := "probeTurns", apart := false, narrowed := true }
def ProbeTurnsUptoSaid : Prop := probeTurnsUptoRow.holds Try.pinned (OpenSpec.upto probeTurnsSpec)

/-- 'headracelaw19.ProbeNil', WHERE WHAT IT READS IS OF BULK AT MOST 1048576: true; the input reads as it did. -/
def probeNilUptoRow : OpenClaim := { program := "yteaepadamhmknaa", sum := "0b6152e48f9e2484fcbd3aefaa106d51d51fc33b14fc64c9aa4a2f1529245865", func := "headrace/headracelaw19.ProbeNil", spec := "probeNil", apart := false, narrowed := true }
def ProbeNilUptoSaid : Prop := probeNilUptoRow.holds Try.pinned (OpenSpec.upto probeNilSpec)

/-- 'headracelaw19.ProbeWell', WHERE WHAT IT READS IS OF BULK AT MOST 1048576: true; the input reads as it did. -/
def probeWellUptoRow : OpenClaim := { program := "yteaepadamhmknaa", sum := "0b6152e48f9e2484fcbd3aefaa106d51d51fc33b14fc64c9aa4a2f1529245865", func := "headrace/headracelaw19.ProbeWell", spec := "probeWell", apart := false, narrowed := true }
def ProbeWellUptoSaid : Prop := probeWellUptoRow.holds Try.pinned (OpenSpec.upto probeWellSpec)

end Rows
end Go.Proofs.Yteaepadamhmknaa
