/- Arguments that are structs of whole numbers, and slices of such: what their reading tells of the cells. It speaks of no program. -/
import Derived.WalkKit
import Derived.SizedLaws
import Derived.Deep.Slices
import Derived.Deep.Fields
set_option linter.unusedVariables false
namespace Go.Proofs.Yteaepadamhmknaa
open Go.RowKit Go.ChangeShapes Go.WideShapes Go.Deep
/-- Every field is an int. -/
def allI64 (P : Program) (fs : Array Field) : Bool := oneCellFields P fs && fs.all fun f => match P.underlying f.type with | some (.int .i64) => true | _ => false
section
variable {H : Type} {enc : TypeId × Value → H} {P : Program} {w : World} {base : Nat} {spare : Nat → Bool} {held : Bool}
theorem ints_cells {t : TypeId} {fs : Array Field} {fuel : Nat} {cs : List Value} {x : DataW H × List MemPlace} (hs : P.underlying t = some (.struct fs)) (hi : allI64 P fs = true) (hC : P.cellsOf t = fs.size) (h : DataW.trod enc P w base spare held fuel t cs = some x) :
    ∃ zs : List Int, cs = zs.map (Value.int .i64) ∧ zs.length = fs.size ∧ ∀ z, z ∈ zs → (Lit.int .i64 z).wf = true := by
  obtain ⟨xs, n, _, _, hl, hxl, hf⟩ := DataW.trod_struct hs h
  rw [hC] at hl
  simp only [allI64, Bool.and_eq_true] at hi
  have key : ∀ i, i < fs.size → ∃ z : Int, cs[i]? = some (.int .i64 z) ∧ (Lit.int .i64 z).wf = true := by
    intro i hlt
    have hfi : fs[i]? = some fs[i] := Array.getElem?_eq_getElem hlt
    obtain ⟨ho, hc1⟩ := hone_of hi.1 i fs[i] hfi
    have g := hf i fs[i] hfi
    rw [ho, hc1, take1_drop cs i undef (by omega), List.getElem?_eq_getElem (by omega)] at g
    have hu : P.underlying fs[i].type = some (.int .i64) := by
      have := Array.all_eq_true_iff_forall_mem.1 hi.2 fs[i] (Array.getElem_mem hlt)
      split at this
      · assumption
      · cases this
    obtain ⟨z, hz, _, hw⟩ := DataW.trod_int hu g
    have hz' : cs.getD i undef = .int .i64 z := by simpa using hz
    refine ⟨z, ?_, hw⟩
    rw [List.getD_eq_getElem?_getD, List.getElem?_eq_getElem (by omega)] at hz'
    rw [List.getElem?_eq_getElem (by omega)]
    simpa using hz'
  refine ⟨cs.map intOf, ?_, by simp [hl], ?_⟩
  · refine List.ext_getElem (by simp) (fun i h1 h2 => ?_)
    obtain ⟨z, hz, _⟩ := key i (by omega)
    rw [List.getElem?_eq_getElem h1] at hz
    injection hz with hz
    simp [hz, intOf]
  · intro z hz
    obtain ⟨v, hv, rfl⟩ := List.mem_map.1 hz
    obtain ⟨i, hi', rfl⟩ := List.mem_iff_getElem.1 hv
    obtain ⟨z, hz, hw⟩ := key i (by omega)
    rw [List.getElem?_eq_getElem hi'] at hz
    injection hz with hz
    rw [hz]
    exact hw
/-- A struct of ints, by value. -/
theorem open_ints_agg {r : Reach} {b0 : Nat} {t : TypeId} {fs : Array Field} {v : Value} {d : DataW H} {ps : List MemPlace} (hs : P.underlying t = some (.struct fs)) (hi : allI64 P fs = true) (hC : P.cellsOf t = fs.size)
    (hv : Value.okWide P w r b0 t v) (h : DataW.Trod enc P w base spare held t v d ps) :
    ∃ zs : List Int, v = .agg (zs.map (Value.int .i64)).toArray ∧ zs.length = fs.size ∧ ∀ z, z ∈ zs → (Lit.int .i64 z).wf = true := by
  obtain ⟨cs, rfl, hsz⟩ := okWide_struct hs hv
  obtain ⟨fuel, hf⟩ := h
  obtain ⟨zs, h1, h2, h3⟩ := ints_cells hs hi hC hf
  refine ⟨zs, ?_, h2, h3⟩
  rw [← h1]
  simp [Value.cells]
/-- A slice whose elements are c ints each: element i's number j. -/
def Flat (w : World) (a : Option Addr) (n c : Nat) (f : Nat → Nat → Int) : Prop :=
  (∀ i j, i < n → j < c → (Lit.int .i64 (f i j)).wf = true) ∧ (0 < n → ∃ b o, a = some ⟨b, o, none⟩ ∧ b < w.heap.size ∧ ∀ i j, i < n → j < c → w.cell? ⟨b, o + (i * c + j), none⟩ = some (.int .i64 (f i j)))
theorem open_flat {t e : TypeId} {fs : Array Field} {a : Option Addr} {len cap : Nat} {d : DataW H} {ps : List MemPlace} {ts : List TypeId} {ds : List (DataW H)} {j : Nat}
    (hsz : (DataW.weightsEach P ts ds).all (· ≤ reachBytes) = true) (ht : ts[j]? = some t) (hd : ds[j]? = some d) (hu : P.underlying t = some (.slice e)) (hs : P.underlying e = some (.struct fs)) (hi : allI64 P fs = true) (hC : P.cellsOf e = fs.size) (hpos : 0 < fs.size) {B : Nat} (hB : P.bytesOf e = B)
    (h : DataW.Trod enc P w base spare held t (.slice a len cap) d ps) :
    len * B ≤ 140737488351232 ∧ len ≤ 9223372036854775807 ∧ ∃ f, Flat w a len fs.size f := by
  obtain ⟨fuel, hf⟩ := h
  rcases open_slice hu hf with ⟨hcs, _⟩ | ⟨a', len', cap', m, n, D, Pl, hcs, _, hl, hm, hme, hx, hcell⟩
  · simp [Value.cells] at hcs
    obtain ⟨rfl, rfl, rfl⟩ := hcs
    exact ⟨by simp, by simp, fun _ _ => 0, fun i j hi => by omega, fun hi => by omega⟩
  · simp [Value.cells] at hcs
    obtain ⟨rfl, rfl, rfl⟩ := hcs
    obtain ⟨hx, _⟩ := Prod.mk.inj hx
    subst hx
    have z := sized_slice hsz ht hd hu
    rw [hB] at z
    have hl2 : len ≤ m := by
      rw [hme]
      split
      · exact hl
      · exact Nat.le_refl _
    simp only [List.length_map, List.length_range] at z
    rw [show len + (m - len) = m by omega] at z
    have key : ∀ i, ∃ zs : List Int, i < len → zs.length = fs.size ∧ (∀ z, z ∈ zs → (Lit.int .i64 z).wf = true) ∧ a'.spot = none ∧ ∀ j, j < fs.size → w.cell? ⟨a'.block, a'.off + (i * fs.size + j), none⟩ = some (.int .i64 (zs.getD j 0)) := by
      intro i
      by_cases hlt : i < len
      · obtain ⟨cs', hc, htr⟩ := hcell i (by omega)
        obtain ⟨zs, h1, h2, h3⟩ := ints_cells hs hi hC htr
        obtain ⟨hb, hlen, hce⟩ := World.cells?_some hc
        refine ⟨zs, fun _ => ⟨h2, h3, ?_, fun j hj => ?_⟩⟩
        · by_cases h0 : len = 0
          · omega
          · obtain ⟨cs0, hc0, htr0⟩ := hcell 0 (by omega)
            obtain ⟨_, hlen0, hce0⟩ := World.cells?_some hc0
            have := hce0 0 (by rw [hC]; exact hpos)
            rw [List.getElem?_eq_getElem (by rw [hlen0, hC]; exact hpos)] at this
            have hsp := World.cell?_spot this
            simpa [Addr.add] using hsp
        · have := hce j (by rw [hC]; exact hj)
          rw [h1] at this
          have e2 : (zs.map (Value.int .i64))[j]? = some (.int .i64 (zs.getD j 0)) := by
            simp [List.getD_eq_getElem?_getD, show j < zs.length by omega]
          rw [e2] at this
          by_cases hs0 : a'.spot = none
          · obtain ⟨b, o, s⟩ := a'
            obtain rfl : s = none := hs0
            rw [hC, Addr.add_lit, Addr.add_lit, Nat.add_assoc] at this
            exact this
          · exfalso
            obtain ⟨cs0, hc0, htr0⟩ := hcell 0 (by omega)
            obtain ⟨_, hlen0, hce0⟩ := World.cells?_some hc0
            have := hce0 0 (by rw [hC]; exact hpos)
            rw [List.getElem?_eq_getElem (by rw [hlen0, hC]; exact hpos)] at this
            have hsp := World.cell?_spot this
            exact hs0 (by simpa [Addr.add] using hsp)
      · exact ⟨[], fun h => absurd h hlt⟩
    refine ⟨Nat.le_trans (Nat.mul_le_mul_right _ hl2) z, by simp only [maxLen] at hm; omega, fun i j => (Classical.choose (key i)).getD j 0, fun i j hi' hj => ?_, fun hn => ?_⟩
    · obtain ⟨h1, h2, _, _⟩ := Classical.choose_spec (key i) hi'
      refine h2 _ ?_
      show (Classical.choose (key i)).getD j 0 ∈ _
      rw [List.getD_eq_getElem?_getD, List.getElem?_eq_getElem (by omega)]
      exact List.getElem_mem _
    · obtain ⟨_, _, hs0, hc0⟩ := Classical.choose_spec (key 0) (by omega)
      obtain ⟨b, o, s⟩ := a'
      obtain rfl : s = none := hs0
      have hbl := World.block_lt_of_cell? w _ (hc0 0 hpos)
      exact ⟨b, o, rfl, hbl, fun i j hi' hj => (Classical.choose_spec (key i) hi').2.2.2 j hj⟩
end
end Go.Proofs.Yteaepadamhmknaa
