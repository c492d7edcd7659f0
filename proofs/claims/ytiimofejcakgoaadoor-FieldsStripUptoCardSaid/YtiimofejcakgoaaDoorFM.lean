/- What an argument that is a slice of fields reads as. -/
import Derived.Test.YtiimofejcakgoaaDoorFA
import Derived.Test.YtiimofejcakgoaaDoorRows
import Derived.WalkKit
import Derived.ProofKit
import Derived.OpenShut
import Derived.SizedLaws
import Derived.ChangeSame
import Derived.Deep.Slices
namespace Go.Proofs.YtiimofejcakgoaaDoor
open Go.ChangeShapes Go.WideShapes Go.ChangeAt Go.RowKit Go.Deep
set_option linter.unusedVariables false

theorem one_le {H : Type} (d : DataW H) : 1 ≤ Rows.uptoBulk d := by
  cases d with
  | lit l => cases l <;> simp [Rows.uptoBulk]
  | nil => simp [Rows.uptoBulk]
  | ptr d => simp [Rows.uptoBulk]
  | slice elems spare => simp [Rows.uptoBulk]
  | agg parts => simp [Rows.uptoBulk]
  | iface t d => simp [Rows.uptoBulk]
  | map entries => simp [Rows.uptoBulk]
  | held h => simp [Rows.uptoBulk]
theorem cells36 : Tryd.prog.cellsOf 36 = 2 := by kernel_rfl
theorem cells9 : Tryd.prog.cellsOf 9 = 1 := by kernel_rfl
section
variable {H : Type} {enc : TypeId × Value → H} {W : World} {base : Nat} {spare : Nat → Bool} {held : Bool}
set_option maxRecDepth 100000 in
theorem open_field {fuel : Nat} {cs : List Value} {x : DataW H × List MemPlace} (h : DataW.trod enc Tryd.prog W base spare held fuel 36 cs = some x) :
    ∃ f : Fd, cs = [.string f.1, .string f.2] ∧ lensF [f] + 3 ≤ Rows.uptoBulk x.1 := by
  obtain ⟨y0, y1, n, rfl, hl, h0, h1⟩ := trod_struct2 Tryd.underlying36 h
  rw [cells36] at hl
  match cs, hl with
  | [c0, c1], _ =>
    dsimp only at h0 h1
    rw [cells9] at h0 h1
    obtain ⟨s0, e0, rfl, _⟩ := DataW.trod_string Tryd.underlying9 h0
    obtain ⟨s1, e1, rfl, _⟩ := DataW.trod_string Tryd.underlying9 h1
    simp at e0 e1
    subst e0 e1
    refine ⟨(s0, s1), rfl, ?_⟩
    have l0 := toList_len s0
    have l1 := toList_len s1
    simp only [Rows.uptoBulk, Rows.uptoBulkAll, lensF, List.map_cons, List.map_nil, List.sum_cons, List.sum_nil]
    omega
theorem bulk_map (f : Nat → Fd) (D : Nat → DataW H) (n : Nat) (h : ∀ i, i < n → lensF [f i] + 3 ≤ Rows.uptoBulk (D i)) : lensF ((List.range n).map f) + 3 * n ≤ Rows.uptoBulkAll ((List.range n).map D) := by
  induction n with
  | zero => simp [lensF]
  | succ n ih =>
    have h1 := ih (fun i hi => h i (by omega))
    have h2 := h n (by omega)
    have ha : ∀ (l r : List (DataW H)), Rows.uptoBulkAll (l ++ r) = Rows.uptoBulkAll l + Rows.uptoBulkAll r := by
      intro l r
      induction l with
      | nil => simp [Rows.uptoBulkAll]
      | cons x l ih => simp only [List.cons_append, Rows.uptoBulkAll, ih]; omega
    rw [List.range_succ, List.map_append, List.map_append, ha]
    have hb : lensF ((List.range n).map f ++ [f n]) = lensF ((List.range n).map f) + lensF [f n] := by
      unfold lensF
      rw [List.map_append, List.sum_append]
    show lensF (_ ++ [f n]) + _ ≤ _ + Rows.uptoBulkAll [D n]
    rw [hb]
    simp only [Rows.uptoBulkAll]
    omega
set_option maxRecDepth 100000 in
theorem open_flds {b0 : Nat} {v : Value} {d : DataW H} {ps : List MemPlace} (hv : Value.okWide Tryd.prog W .any b0 22 v) (h : DataW.Trod enc Tryd.prog W base spare held 22 v d ps) :
    ∃ fs : List Fd, Flds W v fs ∧ Nil0 v ∧ lensF fs + 3 * fs.length ≤ Rows.uptoBulk d := by
  obtain ⟨a, len, cap, rfl⟩ := okWide_slice Tryd.underlying22 hv
  obtain ⟨fuel, hf⟩ := h
  rcases open_slice Tryd.underlying22 hf with ⟨hcs, _⟩ | ⟨a', len', cap', m, n, D, Pl, hcs, _, hl, hm, hme, hx, hcell⟩
  · simp [Value.cells] at hcs
    obtain ⟨rfl, rfl, rfl⟩ := hcs
    exact ⟨[], ⟨none, 0, rfl, Nat.le_refl _, fun h => by simp at h⟩, fun n c e => by injection e with _ h1 h2; exact ⟨h1.symm, h2.symm⟩, by simp [lensF]⟩
  · simp [Value.cells] at hcs
    obtain ⟨rfl, rfl, rfl⟩ := hcs
    obtain ⟨hx, _⟩ := Prod.mk.inj hx
    subst hx
    have hl2 : len ≤ m := by
      rw [hme]
      split
      · exact hl
      · exact Nat.le_refl _
    have hs0 : 0 < len → a'.spot = none := fun hpos => by
      obtain ⟨cs', hc, htr⟩ := hcell 0 (by omega)
      obtain ⟨f, rfl, hbk⟩ := open_field htr
      obtain ⟨hb, hlen, hce⟩ := World.cells?_some hc
      have q0 := hce 0 (by rw [cells36]; omega)
      have q00 : W.cell? ((a'.add (0 * Tryd.prog.cellsOf 36)).add 0) = some (.string f.1) := q0
      have hsp := World.cell?_spot q00
      rw [Nat.zero_mul] at hsp
      simpa [Addr.add] using hsp
    have key : ∀ i, ∃ f : Fd, i < len → lensF [f] + 3 ≤ Rows.uptoBulk (D i) ∧ a'.spot = none ∧ W.cell? ⟨a'.block, a'.off + i * 2, none⟩ = some (.string f.1) ∧ W.cell? ⟨a'.block, a'.off + i * 2 + 1, none⟩ = some (.string f.2) := by
      intro i
      by_cases hlt : i < len
      · obtain ⟨cs', hc, htr⟩ := hcell i (by omega)
        obtain ⟨f, rfl, hbk⟩ := open_field htr
        obtain ⟨hb, hlen, hce⟩ := World.cells?_some hc
        have q0 := hce 0 (by rw [cells36]; omega)
        have q1 := hce 1 (by rw [cells36]; omega)
        have hsp : a'.spot = none := hs0 (by omega)
        obtain ⟨b, o, s⟩ := a'
        obtain rfl : s = none := hsp
        rw [cells36, Addr.add_lit, Addr.add_lit] at q0 q1
        exact ⟨f, fun _ => ⟨hbk, rfl, q0, q1⟩⟩
      · exact ⟨(ByteArray.empty, ByteArray.empty), fun h => absurd h hlt⟩
    let f : Nat → Fd := fun i => Classical.choose (key i)
    have hfs : ∀ i, i < len → lensF [f i] + 3 ≤ Rows.uptoBulk (D i) ∧ a'.spot = none ∧ W.cell? ⟨a'.block, a'.off + i * 2, none⟩ = some (.string (f i).1) ∧ W.cell? ⟨a'.block, a'.off + i * 2 + 1, none⟩ = some (.string (f i).2) := fun i hi => Classical.choose_spec (key i) hi
    have hfl : ((List.range len).map f).length = len := by simp
    refine ⟨(List.range len).map f, ⟨some a', cap, by rw [hfl], by rw [hfl]; exact hl, fun hp => ?_⟩, (by intro x y e; injection e with e; cases e), ?_⟩
    · rw [hfl] at hp
      obtain ⟨_, hs, q0, _⟩ := hfs 0 hp
      obtain ⟨b, o, s⟩ := a'
      obtain rfl : s = none := hs
      refine ⟨b, o, rfl, World.block_lt_of_cell? W _ q0, fun j g hj => ?_⟩
      have hjl := (List.getElem?_eq_some_iff.1 hj).1
      rw [hfl] at hjl
      rw [List.getElem?_map, List.getElem?_range hjl] at hj
      injection hj with hj
      subst hj
      exact ⟨(hfs j hjl).2.2.1, (hfs j hjl).2.2.2⟩
    · have := bulk_map f D len (fun i hi => (hfs i hi).1)
      rw [hfl]
      simp only [Rows.uptoBulk]
      omega
theorem lens_mem {fs : List Fd} {f : Fd} (h : f ∈ fs) : f.1.size + f.2.size ≤ lensF fs := by
  induction fs with
  | nil => cases h
  | cons g fs ih =>
    have e : lensF (g :: fs) = g.1.size + g.2.size + lensF fs := rfl
    rcases List.mem_cons.1 h with rfl | h
    · omega
    · have := ih h
      omega
end
end Go.Proofs.YtiimofejcakgoaaDoor
