/- A world in which the listed variables of the library lie, for the witness of each row; and what each row's premise says of the variables. -/
import Derived.Test.YtoinhenekeogiaaDoorRows
import Derived.Test.YtoinhenekeogiaaDoorT3
import Derived.WalkKit
import Derived.ProofKit
import Derived.Deep.DeepHandedRow
import Derived.Deep.DeepWitnessRowRef
import Derived.Lib.LaidTab
import Derived.Stop.LaidErr
import Derived.Shelf.Vars
namespace Go.Proofs.YtoinhenekeogiaaDoor
open Go.ChangeShapes Go.WideShapes Go.ChangeAt Go.RowKit

def cell1 : DataW Unit → List Value
  | .lit (.int k n) => [.int k n]
  | _ => []
def cells1 : DataW Unit → List Value
  | .agg ps => ps.flatMap cell1
  | _ => []
def cells2 : DataW Unit → List Value
  | .agg ps => ps.flatMap cells1
  | _ => []
def putCells (cs : List Value) : Obj → Obj
  | .cells _ t frozen => .cells cs.toArray t frozen
  | o => o
def xRange : ByteArray := ⟨#[118, 97, 108, 117, 101, 32, 111, 117, 116, 32, 111, 102, 32, 114, 97, 110, 103, 101]⟩
def xSyntax : ByteArray := ⟨#[105, 110, 118, 97, 108, 105, 100, 32, 115, 121, 110, 116, 97, 120]⟩
noncomputable def held (os : Os) : World := World.holding Tryd.prog os ⟨#[.cells #[.string xRange] 105, .cells #[.string xSyntax] 105], #[], []⟩
noncomputable def laidWorld (os : Os) : World :=
  { held os with heap := (((((((held os).heap.modify 6 (putCells (cells1 Rows.laid_math_bits_deBruijn32tab))).modify 7 (putCells (cells1 Rows.laid_math_bits_deBruijn64tab))).modify 5 (putCells (cells1 Rows.laid_internal_strconv_uint64pow10))).modify 2 (putCells (cells2 Rows.laid_unicode_utf8_acceptRanges))).modify 1 (putCells (cells1 Rows.laid_unicode_utf8_first))).modify 4 (putCells [.iface 103 (.pointer (some ⟨(World.settled Tryd.prog os).heap.size, 0, none⟩))])).modify 3 (putCells [.iface 103 (.pointer (some ⟨(World.settled Tryd.prog os).heap.size + 1, 0, none⟩))]) }
def args2 : Array Value := #[.string ⟨#[]⟩, .string ⟨#[]⟩]
def args1 : Array Value := #[.string ⟨#[]⟩]
theorem laid_met2 (os : Os) : laidMet Tryd.prog Rows.targetSafeUptoRow.laid ((laidWorld os).forCall (fun _ _ => 0) ⟨#[], args2, []⟩).memory :=
  laidMet_of_run' 8 (by kernel_rfl) (by kernel_rfl)
theorem laid_met1 (os : Os) : laidMet Tryd.prog Rows.targetSafeUptoRow.laid ((laidWorld os).forCall (fun _ _ => 0) ⟨#[], args1, []⟩).memory :=
  laidMet_of_run' 8 (by kernel_rfl) (by kernel_rfl)
def nmOf : DataW Unit → String
  | .iface nm _ => nm
  | _ => "x"
def errName : String := nmOf Rows.laid_strconv_ErrSyntax
theorem row103 (u : TypeId) (h : Tryd.prog.typeName? 3 u = some errName) : u = 103 := by
  have key : ∀ q : String, q = errName → ((List.range Tryd.prog.types.size).all fun u => Tryd.prog.typeName? 3 u != some q || u == 103) = true := by
    rintro q rfl
    kernel_rfl
  exact typeName_ptr_named (nm := "errors.errorString") (key _ (by decide +kernel)) (by kernel_rfl) (by decide) u (h.trans (congrArg some (by decide +kernel)))
theorem env_of {W : World} (hL : laidMet Tryd.prog Rows.targetSafeUptoRow.laid W) (hS : W.ShapedOpen Tryd.prog) : Env W := by
  refine ⟨cell_of_shapedOpen_int (P := Tryd.prog) (g := 0) (t := 3) (zero := #[.int .i64 0]) hS (by decide +kernel) (by kernel_rfl) rfl (by kernel_rfl) (by kernel_rfl) Tryd.underlying3, ?_⟩
  obtain ⟨a, t, hv, -⟩ := laid_sentinel (g := 3) hL.tail.tail.tail.tail.tail (by kernel_rfl) (by kernel_rfl) Tryd.underlying53 row103 Tryd.underlying103 Tryd.underlying105 rfl rfl Tryd.underlying9 (by kernel_rfl) (by kernel_rfl)
  have h0 := World.var?_cell (P := Tryd.prog) (g := 3) (by kernel_rfl) hv 0
  exact ⟨_, _, by simpa using h0⟩
theorem toLen (s : ByteArray) : s.data.toList.length = s.size := toList_len s
end Go.Proofs.YtoinhenekeogiaaDoor
