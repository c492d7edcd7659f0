/- A world in which the listed variables of the library lie, for the witness of a row on a configuration; and what a row's premise says of the variables. -/
import Derived.Test.YtjndgkbikhndoaaGreatDoorRows
import Derived.Test.YtjndgkbikhndoaaGreatDoorT6
import Derived.Test.YtjndgkbikhndoaaGreatDoorVG
import Derived.WalkKit
import Derived.ProofKit
import Derived.OpenShut
import Derived.SizedLaws
import Derived.ChangeSame
import Derived.Deep.DeepHandedRow
import Derived.Deep.DeepWitnessRowRef
import Derived.Lib.LaidTab
import Derived.Stop.LaidErr
import Derived.Shelf.Vars
namespace Go.Proofs.YtjndgkbikhndoaaGreatDoor
open Go.ChangeShapes Go.WideShapes Go.ChangeAt Go.RowKit
set_option linter.unusedVariables false

def cell1 : DataW Unit → List Value
  | .lit (.int k n) => [.int k n]
  | _ => []
def cells1 : DataW Unit → List Value
  | .agg ps => ps.flatMap cell1
  | _ => []
def cells2 : DataW Unit → List Value
  | .agg ps => ps.flatMap cells1
  | _ => []
def putCells (cs : List Value) : Obj → Obj
  | .cells _ t frozen => .cells cs.toArray t frozen
  | o => o
def xRange : ByteArray := ⟨#[118, 97, 108, 117, 101, 32, 111, 117, 116, 32, 111, 102, 32, 114, 97, 110, 103, 101]⟩
def xSyntax : ByteArray := ⟨#[105, 110, 118, 97, 108, 105, 100, 32, 115, 121, 110, 116, 97, 120]⟩
noncomputable def held (os : Os) : World := World.holding Tryz.prog os ⟨#[.cells #[.string xRange] 178, .cells #[.string xSyntax] 178], #[], []⟩
noncomputable def laidWorld (os : Os) : World :=
  { held os with heap := (((((((held os).heap.modify 6 (putCells (cells1 Rows.laid_math_bits_deBruijn32tab))).modify 7 (putCells (cells1 Rows.laid_math_bits_deBruijn64tab))).modify 5 (putCells (cells1 Rows.laid_internal_strconv_uint64pow10))).modify 4 (putCells (cells2 Rows.laid_unicode_utf8_acceptRanges))).modify 3 (putCells (cells1 Rows.laid_unicode_utf8_first))).modify 2 (putCells [.iface 176 (.pointer (some ⟨(World.settled Tryz.prog os).heap.size, 0, none⟩))])).modify 1 (putCells [.iface 176 (.pointer (some ⟨(World.settled Tryz.prog os).heap.size + 1, 0, none⟩))]) }
def argsC : Array Value := #[.agg #[.slice none 0 0, .slice none 0 0, .int .i64 0, .int .i64 0, .int .i64 0, .int .i64 0, .string ⟨#[]⟩, .int .i64 0, .int .i64 0, .int .i64 0, .int .i64 0, .int .i64 0, .int .i64 0, .int .i64 0, .int .i64 0, .int .i64 0, .int .i64 0, .int .i64 0]]
theorem laid_metC (os : Os) : laidMet Tryz.prog Rows.configTurnedUptoRow.laid ((laidWorld os).forCall (fun _ _ => 0) ⟨#[], argsC, []⟩).memory :=
  laidMet_of_run' 8 (by kernel_rfl) (by kernel_rfl)
def nmOf : DataW Unit → String
  | .iface nm _ => nm
  | _ => "x"
def errName : String := nmOf Rows.laid_strconv_ErrSyntax
theorem row176 (u : TypeId) (h : Tryz.prog.typeName? 3 u = some errName) : u = 176 := by
  have key : ∀ q : String, q = errName → ((List.range Tryz.prog.types.size).all fun u => Tryz.prog.typeName? 3 u != some q || u == 176) = true := by
    rintro q rfl
    kernel_rfl
  exact typeName_ptr_named (nm := "errors.errorString") (key _ (by decide +kernel)) (by kernel_rfl) (by decide) u (h.trans (congrArg some (by decide +kernel)))
theorem env_of {W : World} (hL : laidMet Tryz.prog Rows.configTurnedUptoRow.laid W) (hS : W.ShapedOpen Tryz.prog) : Env W := by
  refine ⟨cell_of_shapedOpen_int (P := Tryz.prog) (g := 0) (t := 3) (zero := #[.int .i64 0]) hS (by decide +kernel) (by kernel_rfl) rfl (by kernel_rfl) (by kernel_rfl) Tryz.underlying3, ?_⟩
  obtain ⟨a, t, hv, -⟩ := laid_sentinel (g := 1) hL.tail.tail.tail.tail.tail (by kernel_rfl) (by kernel_rfl) Tryz.underlying105 row176 Tryz.underlying176 Tryz.underlying178 rfl rfl Tryz.underlying9 (by kernel_rfl) (by kernel_rfl)
  have h0 := World.var?_cell (P := Tryz.prog) (g := 1) (by kernel_rfl) hv 0
  exact ⟨_, _, by simpa using h0⟩
end Go.Proofs.YtjndgkbikhndoaaGreatDoor
