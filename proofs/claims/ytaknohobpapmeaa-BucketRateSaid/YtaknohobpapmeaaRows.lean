/-
  No cell of these rows narrows 'for every input' (looked for: loops, veiled, ifaces, maps, wideKeys, modest, calm, conditions, laid).
  DERIVED. THE GIVEN ROWS OF THIS SEAT. 6 by the template 'for every input the law returns true; each argument reads behind the call as it read before'; 0 by the template 'total and deterministic' (their statements: YtaknohobpapmeaaTotals.lean).
  GIVEN WITH THE SEED: the statements are not yours to turn. If you find one false, say at which input.
  Laid BY PROGRAM, IN A SANDBOX (cutbox-rows.mjs): the forced cells as the released guide's own fill.sh prints them over the translation b3d2b4f0d1cd6b8c… (all of the seat's roots in one cut). By AI agents, Wed Nov 11 2026. No macro, syntax, notation, axiom, sorry.
-/
import Derived.Test.YtaknohobpapmeaaChecked
import GoSem.Claim
import GoSem.ClaimJoined
import GoSem.ClaimMapViews
import Derived.JoinedTies
import Derived.KernelRfl
namespace Go.Proofs.Ytaknohobpapmeaa
/- THE CELL 'sum', in the pinned program and in every row, IS THE sha256 OF THE DUMP (.gsa) THAT YtaknohobpapmeaaProg.lean LOADS. Nothing in Lean hashes anything: it is a label: what it is worth is what the hold of that sum in a sandbox is worth. -/
noncomputable def Try.pinned : Pinned := { name := "ytaknohobpapmeaa", sum := "b3d2b4f0d1cd6b8cebd444c8e97cba7305c82e529c9d9f71b3ad2d09e521e743", checked := Try.checked }
namespace Rows
def none {H : Type} : Left H := { results := [], args := [] }

/-- 'headracelaw15.BucketSteps': WHATEVER THE INPUT: true; the input reads as it did. -/
def bucketStepsSpec : ChangeSpec := { name := "bucketSteps", fn := fun _ => fun
  | [d1, d2] => { results := [.lit (.bool true)], args := [d1, d2] }
  | _ => none }
def bucketStepsRow : OpenClaim := { program := "ytaknohobpapmeaa", sum := "b3d2b4f0d1cd6b8cebd444c8e97cba7305c82e529c9d9f71b3ad2d09e521e743", func := "headrace/headracelaw15.BucketSteps", spec := "bucketSteps", apart := false }
def BucketStepsSaid : Prop := bucketStepsRow.holds Try.pinned (OpenSpec.ofChange bucketStepsSpec)

/-- ITS FALSE NEIGHBOUR: 'it returns false'. Refute it at one input. -/
def bucketStepsWrong : ChangeSpec := { name := "bucketSteps", fn := fun _ => fun
  | [d1, d2] => { results := [.lit (.bool false)], args := [d1, d2] }
  | _ => none }
def BucketStepsWrongFalsely : Prop := bucketStepsRow.holds Try.pinned (OpenSpec.ofChange bucketStepsWrong)

/-- 'headracelaw15.BucketRate': WHATEVER THE INPUT: true; the input reads as it did. -/
def bucketRateSpec : ChangeSpec := { name := "bucketRate", fn := fun _ => fun
  | [d1, d2] => { results := [.lit (.bool true)], args := [d1, d2] }
  | _ => none }
def bucketRateRow : OpenClaim := { program := "ytaknohobpapmeaa", sum := "b3d2b4f0d1cd6b8cebd444c8e97cba7305c82e529c9d9f71b3ad2d09e521e743", func := "headrace/headracelaw15.BucketRate", spec := "bucketRate", apart := false }
def BucketRateSaid : Prop := bucketRateRow.holds Try.pinned (OpenSpec.ofChange bucketRateSpec)

/-- ITS FALSE NEIGHBOUR: 'it returns false'. Refute it at one input. -/
def bucketRateWrong : ChangeSpec := { name := "bucketRate", fn := fun _ => fun
  | [d1, d2] => { results := [.lit (.bool false)], args := [d1, d2] }
  | _ => none }
def BucketRateWrongFalsely : Prop := bucketRateRow.holds Try.pinned (OpenSpec.ofChange bucketRateWrong)

/-- 'headracelaw15.BucketNext': WHATEVER THE INPUT: true; the input reads as it did. -/
def bucketNextSpec : ChangeSpec := { name := "bucketNext", fn := fun _ => fun
  | [d1, d2] => { results := [.lit (.bool true)], args := [d1, d2] }
  | _ => none }
def bucketNextRow : OpenClaim := { program := "ytaknohobpapmeaa", sum := "b3d2b4f0d1cd6b8cebd444c8e97cba7305c82e529c9d9f71b3ad2d09e521e743", func := "headrace/headracelaw15.BucketNext", spec := "bucketNext", apart := false }
def BucketNextSaid : Prop := bucketNextRow.holds Try.pinned (OpenSpec.ofChange bucketNextSpec)

/-- ITS FALSE NEIGHBOUR: 'it returns false'. Refute it at one input. -/
def bucketNextWrong : ChangeSpec := { name := "bucketNext", fn := fun _ => fun
  | [d1, d2] => { results := [.lit (.bool false)], args := [d1, d2] }
  | _ => none }
def BucketNextWrongFalsely : Prop := bucketNextRow.holds Try.pinned (OpenSpec.ofChange bucketNextWrong)

/-- 'headracelaw15.BucketLooks': WHATEVER THE INPUT: true; the input reads as it did. -/
def bucketLooksSpec : ChangeSpec := { name := "bucketLooks", fn := fun _ => fun
  | [d1, d2] => { results := [.lit (.bool true)], args := [d1, d2] }
  | _ => none }
def bucketLooksRow : OpenClaim := { program := "ytaknohobpapmeaa", sum := "b3d2b4f0d1cd6b8cebd444c8e97cba7305c82e529c9d9f71b3ad2d09e521e743", func := "headrace/headracelaw15.BucketLooks", spec := "bucketLooks", apart := false }
def BucketLooksSaid : Prop := bucketLooksRow.holds Try.pinned (OpenSpec.ofChange bucketLooksSpec)

/-- ITS FALSE NEIGHBOUR: 'it returns false'. Refute it at one input. -/
def bucketLooksWrong : ChangeSpec := { name := "bucketLooks", fn := fun _ => fun
  | [d1, d2] => { results := [.lit (.bool false)], args := [d1, d2] }
  | _ => none }
def BucketLooksWrongFalsely : Prop := bucketLooksRow.holds Try.pinned (OpenSpec.ofChange bucketLooksWrong)

/-- 'headracelaw15.BucketNil': WHATEVER THE INPUT: true; the input reads as it did. -/
def bucketNilSpec : ChangeSpec := { name := "bucketNil", fn := fun _ => fun
  | [d] => { results := [.lit (.bool true)], args := [d] }
  | _ => none }
def bucketNilRow : OpenClaim := { program := "ytaknohobpapmeaa", sum := "b3d2b4f0d1cd6b8cebd444c8e97cba7305c82e529c9d9f71b3ad2d09e521e743", func := "headrace/headracelaw15.BucketNil", spec := "bucketNil", apart := false }
def BucketNilSaid : Prop := bucketNilRow.holds Try.pinned (OpenSpec.ofChange bucketNilSpec)

/-- ITS FALSE NEIGHBOUR: 'it returns false'. Refute it at one input. -/
def bucketNilWrong : ChangeSpec := { name := "bucketNil", fn := fun _ => fun
  | [d] => { results := [.lit (.bool false)], args := [d] }
  | _ => none }
def BucketNilWrongFalsely : Prop := bucketNilRow.holds Try.pinned (OpenSpec.ofChange bucketNilWrong)

/-- 'headracelaw15.BucketGate': WHATEVER THE INPUT: true; the input reads as it did. -/
def bucketGateSpec : ChangeSpec := { name := "bucketGate", fn := fun _ => fun
  | [d1, d2] => { results := [.lit (.bool true)], args := [d1, d2] }
  | _ => none }
def bucketGateRow : OpenClaim := { program := "ytaknohobpapmeaa", sum := "b3d2b4f0d1cd6b8cebd444c8e97cba7305c82e529c9d9f71b3ad2d09e521e743", func := "headrace/headracelaw15.BucketGate", spec := "bucketGate", apart := false }
def BucketGateSaid : Prop := bucketGateRow.holds Try.pinned (OpenSpec.ofChange bucketGateSpec)

/-- ITS FALSE NEIGHBOUR: 'it returns false'. Refute it at one input. -/
def bucketGateWrong : ChangeSpec := { name := "bucketGate", fn := fun _ => fun
  | [d1, d2] => { results := [.lit (.bool false)], args := [d1, d2] }
  | _ => none }
def BucketGateWrongFalsely : Prop := bucketGateRow.holds Try.pinned (OpenSpec.ofChange bucketGateWrong)

/- THE SECOND FORM. 'bulk': how many values and letters a reading holds, each counted each time it is reached (what is shared counts as often as it is met; a slice's spare places count too). A statement '..UptoSaid' is the law's where the arguments, and the package variables that the reading takes, are together of bulk at most 1048576: NARROWER than '..Said'. Prove '..Said' where nothing that the law and all that it calls make is longer than what came in: it says more and counts as full. Else prove '..UptoSaid'. A law counts once. -/
mutual
def uptoBulk {H : Type} : DataW H → Nat
  | .lit (.string bytes) => bytes.length + 1
  | .lit _ => 1
  | .nil => 1
  | .ptr d => uptoBulk d + 1
  | .slice elems spare => uptoBulkAll elems + uptoBulkAll spare + 1
  | .agg parts => uptoBulkAll parts + 1
  | .iface _ d => uptoBulk d + 1
  | .map entries => uptoBulkEntries entries + 1
  | .held _ => 1
def uptoBulkAll {H : Type} : List (DataW H) → Nat
  | [] => 0
  | d :: r => uptoBulk d + uptoBulkAll r
def uptoBulkEntries {H : Type} : List (Lit × DataW H) → Nat
  | [] => 0
  | x :: r => uptoBulkEntry x + uptoBulkEntries r
def uptoBulkEntry {H : Type} : Lit × DataW H → Nat
  | (.string bytes, d) => bytes.length + uptoBulk d + 1
  | (_, d) => uptoBulk d + 1
 end
def uptoSmall : (H : Type) → List (DataW H) → Bool := fun _ ds => decide (uptoBulkAll ds ≤ 1048576)
def OpenSpec.upto (s : _root_.Go.ChangeSpec) : _root_.Go.OpenSpec := { _root_.Go.OpenSpec.ofChange s with cond := some uptoSmall }

/-- 'headracelaw15.BucketSteps', WHERE WHAT IT READS IS OF BULK AT MOST 1048576: true; the input reads as it did. -/
def bucketStepsUptoRow : OpenClaim := { program := "ytaknohobpapmeaa", sum := "b3d2b4f0d1cd6b8cebd444c8e97cba7305c82e529c9d9f71b3ad2d09e521e743", func := "headrace/headracelaw15.BucketSteps", spec := "bucketSteps", apart := false, narrowed := true }
def BucketStepsUptoSaid : Prop := bucketStepsUptoRow.holds Try.pinned (OpenSpec.upto bucketStepsSpec)

/-- 'headracelaw15.BucketRate', WHERE WHAT IT READS IS OF BULK AT MOST 1048576: true; the input reads as it did. -/
def bucketRateUptoRow : OpenClaim := { program := "ytaknohobpapmeaa", sum := "b3d2b4f0d1cd6b8cebd444c8e97cba7305c82e529c9d9f71b3ad2d09e521e743", func := "headrace/headracelaw15.BucketRate", spec := "bucketRate", apart := false, narrowed := true }
def BucketRateUptoSaid : Prop := bucketRateUptoRow.holds Try.pinned (OpenSpec.upto bucketRateSpec)

/-- 'headracelaw15.BucketNext', WHERE WHAT IT READS IS OF BULK AT MOST 1048576: true; the input reads as it did. -/
def bucketNextUptoRow : OpenClaim := { program := "ytaknohobpapmeaa", sum := "b3d2b4f0d1cd6b8cebd444c8e97cba7305c82e529c9d9f71b3ad2d09e521e743", func := "headrace/headracelaw15.BucketNext", spec := "bucketNext", apart := false, narrowed := true }
def BucketNextUptoSaid : Prop := bucketNextUptoRow.holds Try.pinned (OpenSpec.upto bucketNextSpec)

/-- 'headracelaw15.BucketLooks', WHERE WHAT IT READS IS OF BULK AT MOST 1048576: true; the input reads as it did. -/
def bucketLooksUptoRow : OpenClaim := { program := "ytaknohobpapmeaa", sum := "b3d2b4f0d1cd6b8cebd444c8e97cba7305c82e529c9d9f71b3ad2d09e521e743", func := "headrace/headracelaw15.BucketLooks", spec := "bucketLooks", apart := false, narrowed := true }
def BucketLooksUptoSaid : Prop := bucketLooksUptoRow.holds Try.pinned (OpenSpec.upto bucketLooksSpec)

/-- 'headracelaw15.BucketNil', WHERE WHAT IT READS IS OF BULK AT MOST 1048576: true; the input reads as it did. -/
def bucketNilUptoRow : OpenClaim := { program := "ytaknohobpapmeaa", sum := "b3d2b4f0d1cd6b8cebd444c8e97cba7305c82e529c9d9f71b3ad2d09e521e743", func := "headrace/headracelaw15.BucketNil", spec := "bucketNil", apart := false, narrowed := true }
def BucketNilUptoSaid : Prop := bucketNilUptoRow.holds Try.pinned (OpenSpec.upto bucketNilSpec)

/-- 'headracelaw15.BucketGate', WHERE WHAT IT READS IS OF BULK AT MOST 1048576: true; the input reads as it did. -/
def bucketGateUptoRow : OpenClaim := { program := "ytaknohobpapmeaa", sum := "b3d2b4f0d1cd6b8cebd444c8e97cba7305c82e529c9d9f71b3ad2d09e521e743", func := "headrace/headracelaw15.BucketGate", spec := "bucketGate", apart := false, narrowed := true }
def BucketGateUptoSaid : Prop := bucketGateUptoRow.holds Try.pinned (OpenSpec.upto bucketGateSpec)

end Rows
end Go.Proofs.Ytaknohobpapmeaa
