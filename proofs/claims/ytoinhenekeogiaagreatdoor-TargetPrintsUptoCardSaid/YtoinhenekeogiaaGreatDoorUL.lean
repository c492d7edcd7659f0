/- What an argument that is a target reads as; a world in which the listed variables of the library lie, for the witness of the row; and what the row's premise says of the variables. -/
import Derived.Test.YtoinhenekeogiaaGreatDoorRows
import Derived.Test.YtoinhenekeogiaaGreatDoorT6
import Derived.WalkKit
import Derived.ProofKit
import Derived.OpenShut
import Derived.SizedLaws
import Derived.ChangeSame
import Derived.Deep.DeepHandedRow
import Derived.Deep.DeepWitnessRowRef
import Derived.Lib.LaidTab
import Derived.Stop.LaidErr
import Derived.Shelf.Vars
namespace Go.Proofs.YtoinhenekeogiaaGreatDoor
open Go.ChangeShapes Go.WideShapes Go.ChangeAt Go.RowKit
set_option linter.unusedVariables false

section
variable {H : Type} {enc : TypeId × Value → H} {W : World} {base : Nat} {spare : Nat → Bool} {held : Bool}
theorem cells23 : Tryz.prog.cellsOf 23 = 6 := by kernel_rfl
theorem cells3 : Tryz.prog.cellsOf 3 = 1 := by kernel_rfl
theorem cells4 : Tryz.prog.cellsOf 4 = 1 := by kernel_rfl
theorem cells9 : Tryz.prog.cellsOf 9 = 1 := by kernel_rfl
set_option maxRecDepth 100000 in
theorem open_tgt {b0 : Nat} {v : Value} {d : DataW H} {ps : List MemPlace} (hv : Value.okWide Tryz.prog W .any b0 23 v) (h : DataW.Trod enc Tryz.prog W base spare held 23 v d ps) :
    ∃ f hh p pa q a, v = .agg (tgt f hh p pa q a).toArray ∧ p ≤ 9223372036854775807 ∧ hh.size + pa.size + q.size ≤ Rows.uptoBulk d := by
  obtain ⟨cs, rfl, hcs⟩ := okWide_struct Tryz.underlying23 hv
  obtain ⟨fuel, hf⟩ := h
  obtain ⟨xs, n, -, hx, hl, hxl, hg⟩ := DataW.trod_struct Tryz.underlying23 hf
  rw [cells23] at hcs
  obtain ⟨cs⟩ := cs
  match cs, hcs, xs, hxl with
  | [c0, c1, c2, c3, c4, c5], _, [y0, y1, y2, y3, y4, y5], _ =>
    have g0 : DataW.trod enc Tryz.prog W base spare held n 3 (List.take (Tryz.prog.cellsOf 3) (List.drop 0 [c0, c1, c2, c3, c4, c5])) = some y0 := hg 0 _ rfl
    have g1 : DataW.trod enc Tryz.prog W base spare held n 9 (List.take (Tryz.prog.cellsOf 9) (List.drop 1 [c0, c1, c2, c3, c4, c5])) = some y1 := hg 1 _ rfl
    have g2 : DataW.trod enc Tryz.prog W base spare held n 3 (List.take (Tryz.prog.cellsOf 3) (List.drop 2 [c0, c1, c2, c3, c4, c5])) = some y2 := hg 2 _ rfl
    have g3 : DataW.trod enc Tryz.prog W base spare held n 9 (List.take (Tryz.prog.cellsOf 9) (List.drop 3 [c0, c1, c2, c3, c4, c5])) = some y3 := hg 3 _ rfl
    have g4 : DataW.trod enc Tryz.prog W base spare held n 9 (List.take (Tryz.prog.cellsOf 9) (List.drop 4 [c0, c1, c2, c3, c4, c5])) = some y4 := hg 4 _ rfl
    have g5 : DataW.trod enc Tryz.prog W base spare held n 4 (List.take (Tryz.prog.cellsOf 4) (List.drop 5 [c0, c1, c2, c3, c4, c5])) = some y5 := hg 5 _ rfl
    rw [cells3] at g0 g2
    rw [cells9] at g1 g3 g4
    rw [cells4] at g5
    obtain ⟨f, e0, -, -⟩ := DataW.trod_int Tryz.underlying3 g0
    obtain ⟨hh, e1, q1, -⟩ := DataW.trod_string Tryz.underlying9 g1
    obtain ⟨p, e2, -, w2⟩ := DataW.trod_int Tryz.underlying3 g2
    obtain ⟨pa, e3, q3, -⟩ := DataW.trod_string Tryz.underlying9 g3
    obtain ⟨q, e4, q4, -⟩ := DataW.trod_string Tryz.underlying9 g4
    obtain ⟨a, e5, -⟩ := DataW.trod_bool Tryz.underlying4 g5
    simp at e0 e1 e2 e3 e4 e5
    subst e0 e1 e2 e3 e4 e5
    refine ⟨f, hh, p, pa, q, a, rfl, ?_, ?_⟩
    · simp only [Lit.wf, Bool.and_eq_true, decide_eq_true_eq] at w2
      have := w2.2
      have hm : IntKind.i64.max = 9223372036854775807 := by decide
      omega
    · obtain ⟨rfl, -⟩ := Prod.mk.inj hx
      subst q1 q3 q4
      have l0 := toList_len hh
      have l1 := toList_len pa
      have l2 := toList_len q
      simp only [List.map_cons, List.map_nil, Rows.uptoBulk, Rows.uptoBulkAll]
      omega
end
def cell1 : DataW Unit → List Value
  | .lit (.int k n) => [.int k n]
  | _ => []
def cells1 : DataW Unit → List Value
  | .agg ps => ps.flatMap cell1
  | _ => []
def cells2 : DataW Unit → List Value
  | .agg ps => ps.flatMap cells1
  | _ => []
def putCells (cs : List Value) : Obj → Obj
  | .cells _ t frozen => .cells cs.toArray t frozen
  | o => o
def xRange : ByteArray := ⟨#[118, 97, 108, 117, 101, 32, 111, 117, 116, 32, 111, 102, 32, 114, 97, 110, 103, 101]⟩
def xSyntax : ByteArray := ⟨#[105, 110, 118, 97, 108, 105, 100, 32, 115, 121, 110, 116, 97, 120]⟩
noncomputable def held (os : Os) : World := World.holding Tryz.prog os ⟨#[.cells #[.string xRange] 132, .cells #[.string xSyntax] 132], #[], []⟩
noncomputable def laidWorld (os : Os) : World :=
  { held os with heap := (((((((held os).heap.modify 2 (putCells (cells1 Rows.laid_math_bits_deBruijn32tab))).modify 3 (putCells (cells1 Rows.laid_math_bits_deBruijn64tab))).modify 1 (putCells (cells1 Rows.laid_internal_strconv_uint64pow10))).modify 7 (putCells (cells2 Rows.laid_unicode_utf8_acceptRanges))).modify 6 (putCells (cells1 Rows.laid_unicode_utf8_first))).modify 5 (putCells [.iface 130 (.pointer (some ⟨(World.settled Tryz.prog os).heap.size, 0, none⟩))])).modify 4 (putCells [.iface 130 (.pointer (some ⟨(World.settled Tryz.prog os).heap.size + 1, 0, none⟩))]) }
def argsT : Array Value := #[.agg #[.int .i64 0, .string ⟨#[]⟩, .int .i64 0, .string ⟨#[]⟩, .string ⟨#[]⟩, .bool false]]
theorem laid_metT (os : Os) : laidMet Tryz.prog Rows.targetPrintsUptoRow.laid ((laidWorld os).forCall (fun _ _ => 0) ⟨#[], argsT, []⟩).memory :=
  laidMet_of_run' 8 (by kernel_rfl) (by kernel_rfl)
def nmOf : DataW Unit → String
  | .iface nm _ => nm
  | _ => "x"
def errName : String := nmOf Rows.laid_strconv_ErrSyntax
theorem row130 (u : TypeId) (h : Tryz.prog.typeName? 3 u = some errName) : u = 130 := by
  have key : ∀ q : String, q = errName → ((List.range Tryz.prog.types.size).all fun u => Tryz.prog.typeName? 3 u != some q || u == 130) = true := by
    rintro q rfl
    kernel_rfl
  exact typeName_ptr_named (nm := "errors.errorString") (key _ (by decide +kernel)) (by kernel_rfl) (by decide) u (h.trans (congrArg some (by decide +kernel)))
theorem env_of {W : World} (hL : laidMet Tryz.prog Rows.targetPrintsUptoRow.laid W) (hS : W.ShapedOpen Tryz.prog) : Env W := by
  refine ⟨cell_of_shapedOpen_int (P := Tryz.prog) (g := 0) (t := 3) (zero := #[.int .i64 0]) hS (by decide +kernel) (by kernel_rfl) rfl (by kernel_rfl) (by kernel_rfl) Tryz.underlying3, ?_, ?_⟩
  · obtain ⟨a, t, hv, -⟩ := laid_sentinel (g := 4) hL.tail.tail.tail.tail.tail (by kernel_rfl) (by kernel_rfl) Tryz.underlying81 row130 Tryz.underlying130 Tryz.underlying132 rfl rfl Tryz.underlying9 (by kernel_rfl) (by kernel_rfl)
    have h0 := World.var?_cell (P := Tryz.prog) (g := 4) (by kernel_rfl) hv 0
    exact ⟨_, _, by simpa using h0⟩
  · exact Lib.tabIs_of_head (g := 1) (t := 102) (e := 89) (n := 20) (by kernel_rfl) (by kernel_rfl) (by kernel_rfl) (by kernel_rfl) (by kernel_rfl) (by kernel_rfl) hL.tail.tail
end Go.Proofs.YtoinhenekeogiaaGreatDoor
