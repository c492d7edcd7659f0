/- Layer 14 (route): a head's method is shorter than the head's bulk; rows of RouteIdle. -/
import Derived.Test.YtjndgkbikhndoaaGreatDoorYM
import Derived.Test.YtjndgkbikhndoaaGreatDoorYA
namespace Go.Proofs.YtjndgkbikhndoaaGreatDoor
open Go.RowKit Go.ChangeShapes Go.WideShapes Go.ChangeAt
set_option linter.unusedVariables false
section
variable {H : Type} {enc : TypeId × Value → H} {W : World} {base : Nat} {spare : Nat → Bool} {held : Bool}
theorem hd_meth {a : Hd} {fv : Value} {d : DataW H} {ps0 : List MemPlace} (h : DataW.Trod enc Tryz.prog W base spare held 27 (.agg (hdRow a fv).toArray) d ps0) : a.method.size + 1 ≤ Rows.uptoBulk d := by
  obtain ⟨fuel, hf⟩ := h
  obtain ⟨xs, m, -, hx, hl, hxl, hg⟩ := DataW.trod_struct Tryz.underlying27 hf
  match xs, hxl with
  | [y0, y1, y2, y3, y4, y5, y6], _ =>
    have g1 : DataW.trod enc Tryz.prog W base spare held m 9 (List.take (Tryz.prog.cellsOf 9) (List.drop 1 (hdRow a fv))) = some y1 := hg 1 _ rfl
    rw [cells9] at g1
    obtain ⟨s1, e1, b1⟩ := open_str g1
    have l1 : Rows.uptoBulk y1.1 + 1 ≤ Rows.uptoBulk (DataW.agg ([y0, y1, y2, y3, y4, y5, y6].map (fun x => x.1))) := by
      simp only [List.map_cons, List.map_nil, Rows.uptoBulk, Rows.uptoBulkAll]
      omega
    have e2 : a.method = s1 := by simpa [hdRow] using e1
    have e3 : d = DataW.agg ([y0, y1, y2, y3, y4, y5, y6].map (fun x => x.1)) := congrArg Prod.fst hx
    rw [e2, e3]
    omega
end
end Go.Proofs.YtjndgkbikhndoaaGreatDoor
