/- Arguments that are slices of Booleans: what their reading tells of the cells. It speaks of no program. -/
import Derived.WalkKit
import Derived.SizedLaws
import Derived.Deep.Slices
set_option linter.unusedVariables false
namespace Go.Proofs.Yteaepadamhmknaa
open Go.RowKit Go.ChangeShapes Go.WideShapes Go.Deep
def Bools (w : World) (a : Option Addr) (n : Nat) (f : Nat → Bool) : Prop := 0 < n → ∃ x, a = some x ∧ ∀ i, i < n → w.cell? (x.add i) = some (.bool (f i))
def boolOf : Value → Bool
  | .bool b => b
  | _ => false
section
variable {H : Type} {enc : TypeId × Value → H} {P : Program} {w : World} {base : Nat} {spare : Nat → Bool} {held : Bool}
theorem sized_bools {t e : TypeId} {a : Option Addr} {len cap : Nat} {d : DataW H} {ps : List MemPlace} {ts : List TypeId} {ds : List (DataW H)} {j : Nat}
    (hsz : (DataW.weightsEach P ts ds).all (· ≤ reachBytes) = true) (ht : ts[j]? = some t) (hd : ds[j]? = some d) (hu : P.underlying t = some (.slice e)) (hs : P.underlying e = some .bool) (hC : P.cellsOf e = 1) (hB : P.bytesOf e = 1)
    (h : DataW.Trod enc P w base spare held t (.slice a len cap) d ps) :
    len ≤ 140737488351232 ∧ ∃ f, Bools w a len f := by
  obtain ⟨fuel, hf⟩ := h
  rcases open_slice1 hu hC hf with ⟨hcs, _⟩ | ⟨a', len', cap', m, n, V, D, Pl, hcs, _, hl, hm, hme, hx, hcell⟩
  · simp [Value.cells] at hcs
    obtain ⟨rfl, rfl, rfl⟩ := hcs
    exact ⟨by simp, fun _ => false, fun hi => by omega⟩
  · simp [Value.cells] at hcs
    obtain ⟨rfl, rfl, rfl⟩ := hcs
    obtain ⟨hx, _⟩ := Prod.mk.inj hx
    subst hx
    have z := sized_slice hsz ht hd hu
    rw [hB] at z
    have hl2 : len ≤ m := by
      rw [hme]
      split
      · exact hl
      · exact Nat.le_refl _
    simp only [List.length_map, List.length_range] at z
    rw [show len + (m - len) = m by omega] at z
    refine ⟨by have z2 : m * 1 ≤ 140737488351232 := z; omega, fun i => boolOf (V i), fun hn => ⟨a', rfl, fun i hi => ?_⟩⟩
    obtain ⟨h1, h2⟩ := hcell i (by omega)
    obtain ⟨b, hb, _⟩ := DataW.trod_bool hs h2
    injection hb with hb
    show w.cell? (a'.add i) = some (.bool (boolOf (V i)))
    rw [h1, hb]
    rfl
end
end Go.Proofs.Yteaepadamhmknaa
