/- A world in which the listed tables of the library lie: for the witness of each row. -/
import Derived.Test.YtiimofejcakgoaaDoorRows
import Derived.WalkKit
import Derived.ProofKit
import Derived.Deep.DeepHandedRow
import Derived.Lib.LaidTab
namespace Go.Proofs.YtiimofejcakgoaaDoor
open Go.ChangeShapes Go.WideShapes Go.ChangeAt Go.RowKit

def cell1 : DataW Unit → List Value
  | .lit (.int k n) => [.int k n]
  | _ => []
def cells1 : DataW Unit → List Value
  | .agg ps => ps.flatMap cell1
  | _ => []
def cells2 : DataW Unit → List Value
  | .agg ps => ps.flatMap cells1
  | _ => []
def putCells (cs : List Value) : Obj → Obj
  | .cells _ t frozen => .cells cs.toArray t frozen
  | o => o
noncomputable def laidWorld (os : Os) : World :=
  { World.holding Tryd.prog os ⟨#[], #[], []⟩ with heap := (((((World.holding Tryd.prog os ⟨#[], #[], []⟩).heap.modify 4 (putCells (cells1 Rows.laid_math_bits_deBruijn32tab))).modify 5 (putCells (cells1 Rows.laid_math_bits_deBruijn64tab))).modify 1 (putCells (cells1 Rows.laid_internal_strconv_uint64pow10))).modify 3 (putCells (cells2 Rows.laid_unicode_utf8_acceptRanges))).modify 2 (putCells (cells1 Rows.laid_unicode_utf8_first)) }
def args3 : Array Value := #[.slice none 0 0, .string ⟨#[]⟩, .string ⟨#[]⟩]
def args1 : Array Value := #[.slice none 0 0]
theorem laid_met3 (os : Os) : laidMet Tryd.prog Rows.fieldsTellUptoRow.laid ((laidWorld os).forCall (fun _ _ => 0) ⟨#[], args3, []⟩).memory :=
  laidMet_of_run' 8 (by kernel_rfl) (by kernel_rfl)
theorem laid_met1 (os : Os) : laidMet Tryd.prog Rows.fieldsTellUptoRow.laid ((laidWorld os).forCall (fun _ _ => 0) ⟨#[], args1, []⟩).memory :=
  laidMet_of_run' 8 (by kernel_rfl) (by kernel_rfl)
end Go.Proofs.YtiimofejcakgoaaDoor
