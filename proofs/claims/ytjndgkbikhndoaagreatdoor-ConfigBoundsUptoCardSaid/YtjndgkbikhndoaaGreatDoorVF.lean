/- What an argument that is a configuration reads as. -/
import Derived.Test.YtjndgkbikhndoaaGreatDoorV1
import Derived.Test.YtjndgkbikhndoaaGreatDoorRows
import Derived.WalkKit
import Derived.ProofKit
import Derived.OpenShut
import Derived.SizedLaws
import Derived.ChangeSame
import Derived.Deep.Slices
namespace Go.Proofs.YtjndgkbikhndoaaGreatDoor
open Go.ChangeShapes Go.WideShapes Go.ChangeAt Go.RowKit Go.Deep
set_option linter.unusedVariables false

theorem one_le {H : Type} (d : DataW H) : 1 ≤ Rows.uptoBulk d := by
  cases d with
  | lit l => cases l <;> simp [Rows.uptoBulk]
  | nil => simp [Rows.uptoBulk]
  | ptr d => simp [Rows.uptoBulk]
  | slice elems spare => simp [Rows.uptoBulk]
  | agg parts => simp [Rows.uptoBulk]
  | iface t d => simp [Rows.uptoBulk]
  | map entries => simp [Rows.uptoBulk]
  | held h => simp [Rows.uptoBulk]
theorem bulk_mem {H : Type} : ∀ (l : List (DataW H)) (d : DataW H), d ∈ l → Rows.uptoBulk d ≤ Rows.uptoBulkAll l
  | [], d, h => by cases h
  | x :: l, d, h => by
    simp only [Rows.uptoBulkAll]
    rcases List.mem_cons.1 h with rfl | h
    · omega
    · have := bulk_mem l d h
      omega
theorem bulk_len {H : Type} : ∀ (l : List (DataW H)), l.length ≤ Rows.uptoBulkAll l
  | [] => Nat.le_refl _
  | x :: l => by
    simp only [Rows.uptoBulkAll, List.length_cons]
    have := bulk_len l
    have := one_le x
    omega
theorem cells9 : Tryz.prog.cellsOf 9 = 1 := by kernel_rfl
theorem cells3 : Tryz.prog.cellsOf 3 = 1 := by kernel_rfl
theorem cells22 : Tryz.prog.cellsOf 22 = 1 := by kernel_rfl
theorem cells24 : Tryz.prog.cellsOf 24 = 5 := by kernel_rfl
theorem cells33 : Tryz.prog.cellsOf 33 = 1 := by kernel_rfl
theorem cells34 : Tryz.prog.cellsOf 34 = 1 := by kernel_rfl
theorem cells36 : Tryz.prog.cellsOf 36 = 18 := by kernel_rfl
theorem cells40 : Tryz.prog.cellsOf 40 = 1 := by kernel_rfl
theorem cells42 : Tryz.prog.cellsOf 42 = 21 := by kernel_rfl
theorem cells45 : Tryz.prog.cellsOf 45 = 3 := by kernel_rfl
section
variable {H : Type} {enc : TypeId × Value → H} {W : World} {base : Nat} {spare : Nat → Bool} {held : Bool}
/-- A slice, xs a table; each element reads xs a part of what the slice reads as. -/
theorem open_rows {α : Type} {T e k fuel : Nat} {cs : List Value} {x : DataW H × List MemPlace} (hT : Tryz.prog.underlying T = some (.slice e)) (hk : Tryz.prog.cellsOf e = k) (hk0 : 0 < k)
    (h : DataW.trod enc Tryz.prog W base spare held fuel T cs = some x) (R : α → List Value → Prop) (S : Nat → α → Prop) (z : α)
    (hR : ∀ a c, R a c → c.length = k)
    (hel : ∀ (fl : Nat) (c : List Value) (y : DataW H × List MemPlace), DataW.trod enc Tryz.prog W base spare held fl e c = some y → ∃ a, R a c ∧ S (Rows.uptoBulk y.1) a) :
    ∃ (v : Value) (xs : List α) (rows : List (List Value)), cs = [v] ∧ Tbl W v k rows ∧ xs.length = rows.length ∧ (∀ (i : Nat) a r, xs[i]? = some a → rows[i]? = some r → R a r) ∧ xs.length ≤ Rows.uptoBulk x.1 ∧ (∀ a, a ∈ xs → ∃ n, n ≤ Rows.uptoBulk x.1 ∧ S n a) := by
  rcases open_slice hT h with ⟨rfl, rfl⟩ | ⟨a', len, cap, m, n, D, Pl, rfl, _, hl, hm, hme, rfl, hcell⟩
  · exact ⟨_, [], [], rfl, ⟨none, 0, rfl, Nat.le_refl _, fun h => by simp at h⟩, rfl, fun i a r h => by simp at h, Nat.zero_le _, fun a h => by cases h⟩
  · have hl2 : len ≤ m := by
      rw [hme]
      split
      · exact hl
      · exact Nat.le_refl _
    have hs0 : 0 < len → a'.spot = none := fun hpos => by
      obtain ⟨c, hc, htr⟩ := hcell 0 (by omega)
      obtain ⟨a, ha, hs⟩ := hel _ _ _ htr
      have hcl := hR a c ha
      obtain ⟨hb, hlen, hce⟩ := World.cells?_some hc
      rw [hk] at hce
      have q0 := hce 0 hk0
      obtain ⟨u, hu⟩ : ∃ u, c[0]? = some u := ⟨_, List.getElem?_eq_getElem (by omega)⟩
      rw [hu] at q0
      have hsp := World.cell?_spot q0
      rw [Nat.zero_mul] at hsp
      simpa [Addr.add] using hsp
    have key : ∀ i, ∃ (a : α) (c : List Value), i < len → R a c ∧ S (Rows.uptoBulk (D i)) a ∧ a'.spot = none ∧ a'.block < W.heap.size ∧ ∀ j u, c[j]? = some u → W.cell? ⟨a'.block, a'.off + i * k + j, none⟩ = some u := by
      intro i
      by_cases hlt : i < len
      · obtain ⟨c, hc, htr⟩ := hcell i (by omega)
        obtain ⟨a, ha, hs⟩ := hel _ _ _ htr
        have hcl := hR a c ha
        obtain ⟨hb, hlen, hce⟩ := World.cells?_some hc
        rw [hk] at hce
        have hsp : a'.spot = none := hs0 (by omega)
        obtain ⟨bb, oo, s⟩ := a'
        obtain rfl : s = none := hsp
        have hcc : ∀ j u, c[j]? = some u → W.cell? ⟨bb, oo + i * k + j, none⟩ = some u := fun j u hj => by
          have hjl := (List.getElem?_eq_some_iff.1 hj).1
          have q := hce j (by omega)
          rw [Addr.add_lit, Addr.add_lit, hj] at q
          exact q
        refine ⟨a, c, fun _ => ⟨ha, hs, rfl, ?_, hcc⟩⟩
        obtain ⟨u, hu⟩ : ∃ u, c[0]? = some u := ⟨_, List.getElem?_eq_getElem (by omega)⟩
        exact World.block_lt_of_cell? W ⟨bb, oo + i * k + 0, none⟩ (hcc 0 u hu)
      · exact ⟨z, [], fun h => absurd h hlt⟩
    let fa : Nat → α := fun i => Classical.choose (key i)
    let fc : Nat → List Value := fun i => Classical.choose (Classical.choose_spec (key i))
    have hf : ∀ i, i < len → R (fa i) (fc i) ∧ S (Rows.uptoBulk (D i)) (fa i) ∧ a'.spot = none ∧ a'.block < W.heap.size ∧ ∀ j u, (fc i)[j]? = some u → W.cell? ⟨a'.block, a'.off + i * k + j, none⟩ = some u := fun i hi => Classical.choose_spec (Classical.choose_spec (key i)) hi
    have hb1 : Rows.uptoBulkAll ((List.range len).map D) ≤ Rows.uptoBulk (DataW.slice (List.map D (List.range len)) (List.map (fun j => D (len + j)) (List.range (m - len)))) := by
      simp only [Rows.uptoBulk]
      omega
    refine ⟨_, (List.range len).map fa, (List.range len).map fc, rfl, ⟨some a', cap, by simp, by simpa using hl, fun hp => ?_⟩, by simp, ?_, ?_, ?_⟩
    · have hp : 0 < len := by simpa using hp
      obtain ⟨-, -, hs, hbl, -⟩ := hf 0 hp
      obtain ⟨bb, oo, s⟩ := a'
      obtain rfl : s = none := hs
      refine ⟨bb, oo, rfl, hbl, fun i r hr j u hj => ?_⟩
      have hil := (List.getElem?_eq_some_iff.1 hr).1
      rw [List.length_map, List.length_range] at hil
      rw [List.getElem?_map, List.getElem?_range hil] at hr
      obtain rfl : fc i = r := by simpa using hr
      exact (hf i hil).2.2.2.2 j u hj
    · intro i a r ha hr
      have hil := (List.getElem?_eq_some_iff.1 ha).1
      rw [List.length_map, List.length_range] at hil
      rw [List.getElem?_map, List.getElem?_range hil] at ha hr
      obtain rfl : fa i = a := by simpa using ha
      obtain rfl : fc i = r := by simpa using hr
      exact (hf i hil).1
    · have := bulk_len ((List.range len).map D)
      rw [List.length_map, List.length_range] at this
      rw [List.length_map, List.length_range]
      show len ≤ Rows.uptoBulk (DataW.slice _ _)
      omega
    · intro a ha
      obtain ⟨i, hi, rfl⟩ := List.mem_map.1 ha
      rw [List.mem_range] at hi
      exact ⟨_, Nat.le_trans (bulk_mem _ _ (List.mem_map_of_mem (List.mem_range.2 hi))) hb1, (hf i hi).2.1⟩
end
end Go.Proofs.YtjndgkbikhndoaaGreatDoor
