/- What an argument that is a configuration reads as; a world for the witness. -/
import Derived.Test.YtjndgkbikhndoaaGreatDoorM5
import Derived.Test.YtjndgkbikhndoaaGreatDoorRows
import Derived.WalkKit
import Derived.ProofKit
import Derived.OpenShut
import Derived.SizedLaws
import Derived.ChangeSame
import Derived.Deep.Slices
import Derived.Test.YtjndgkbikhndoaaGreatDoorM2
import Derived.Deep.DeepHandedRow
import Derived.Deep.DeepWitnessRowRef
import Derived.Lib.LaidTab
import Derived.Stop.LaidErr
import Derived.Shelf.Vars
namespace Go.Proofs.YtjndgkbikhndoaaGreatDoor
open Go.ChangeShapes Go.WideShapes Go.ChangeAt Go.RowKit Go.Deep
set_option linter.unusedVariables false

theorem one_le {H : Type} (d : DataW H) : 1 ≤ Rows.uptoBulk d := by
  cases d with
  | lit l => cases l <;> simp [Rows.uptoBulk]
  | nil => simp [Rows.uptoBulk]
  | ptr d => simp [Rows.uptoBulk]
  | slice elems spare => simp [Rows.uptoBulk]
  | agg parts => simp [Rows.uptoBulk]
  | iface t d => simp [Rows.uptoBulk]
  | map entries => simp [Rows.uptoBulk]
  | held h => simp [Rows.uptoBulk]
theorem bulk_mem {H : Type} : ∀ (l : List (DataW H)) (d : DataW H), d ∈ l → Rows.uptoBulk d ≤ Rows.uptoBulkAll l
  | [], d, h => by cases h
  | x :: l, d, h => by
    simp only [Rows.uptoBulkAll]
    rcases List.mem_cons.1 h with rfl | h
    · omega
    · have := bulk_mem l d h
      omega
theorem bulk_len {H : Type} : ∀ (l : List (DataW H)), l.length ≤ Rows.uptoBulkAll l
  | [] => Nat.le_refl _
  | x :: l => by
    simp only [Rows.uptoBulkAll, List.length_cons]
    have := bulk_len l
    have := one_le x
    omega
theorem cells9 : Tryz.prog.cellsOf 9 = 1 := by kernel_rfl
theorem cells3 : Tryz.prog.cellsOf 3 = 1 := by kernel_rfl
theorem cells22 : Tryz.prog.cellsOf 22 = 1 := by kernel_rfl
theorem cells24 : Tryz.prog.cellsOf 24 = 5 := by kernel_rfl
theorem cells33 : Tryz.prog.cellsOf 33 = 1 := by kernel_rfl
theorem cells34 : Tryz.prog.cellsOf 34 = 1 := by kernel_rfl
theorem cells36 : Tryz.prog.cellsOf 36 = 18 := by kernel_rfl
theorem cells40 : Tryz.prog.cellsOf 40 = 1 := by kernel_rfl
theorem cells42 : Tryz.prog.cellsOf 42 = 21 := by kernel_rfl
theorem cells45 : Tryz.prog.cellsOf 45 = 3 := by kernel_rfl
section
variable {H : Type} {enc : TypeId × Value → H} {W : World} {base : Nat} {spare : Nat → Bool} {held : Bool}
/-- A slice, xs a table; each element reads xs a part of what the slice reads as. -/
theorem open_rows {α : Type} {T e k fuel : Nat} {cs : List Value} {x : DataW H × List MemPlace} (hT : Tryz.prog.underlying T = some (.slice e)) (hk : Tryz.prog.cellsOf e = k) (hk0 : 0 < k)
    (h : DataW.trod enc Tryz.prog W base spare held fuel T cs = some x) (R : α → List Value → Prop) (S : Nat → α → Prop) (z : α)
    (hR : ∀ a c, R a c → c.length = k)
    (hel : ∀ (fl : Nat) (c : List Value) (y : DataW H × List MemPlace), DataW.trod enc Tryz.prog W base spare held fl e c = some y → ∃ a, R a c ∧ S (Rows.uptoBulk y.1) a) :
    ∃ (v : Value) (xs : List α) (rows : List (List Value)), cs = [v] ∧ Tbl W v k rows ∧ xs.length = rows.length ∧ (∀ (i : Nat) a r, xs[i]? = some a → rows[i]? = some r → R a r) ∧ xs.length ≤ Rows.uptoBulk x.1 ∧ (∀ a, a ∈ xs → ∃ n, n ≤ Rows.uptoBulk x.1 ∧ S n a) := by
  rcases open_slice hT h with ⟨rfl, rfl⟩ | ⟨a', len, cap, m, n, D, Pl, rfl, _, hl, hm, hme, rfl, hcell⟩
  · exact ⟨_, [], [], rfl, ⟨none, 0, rfl, Nat.le_refl _, fun h => by simp at h⟩, rfl, fun i a r h => by simp at h, Nat.zero_le _, fun a h => by cases h⟩
  · have hl2 : len ≤ m := by
      rw [hme]
      split
      · exact hl
      · exact Nat.le_refl _
    have hs0 : 0 < len → a'.spot = none := fun hpos => by
      obtain ⟨c, hc, htr⟩ := hcell 0 (by omega)
      obtain ⟨a, ha, hs⟩ := hel _ _ _ htr
      have hcl := hR a c ha
      obtain ⟨hb, hlen, hce⟩ := World.cells?_some hc
      rw [hk] at hce
      have q0 := hce 0 hk0
      obtain ⟨u, hu⟩ : ∃ u, c[0]? = some u := ⟨_, List.getElem?_eq_getElem (by omega)⟩
      rw [hu] at q0
      have hsp := World.cell?_spot q0
      rw [Nat.zero_mul] at hsp
      simpa [Addr.add] using hsp
    have key : ∀ i, ∃ (a : α) (c : List Value), i < len → R a c ∧ S (Rows.uptoBulk (D i)) a ∧ a'.spot = none ∧ a'.block < W.heap.size ∧ ∀ j u, c[j]? = some u → W.cell? ⟨a'.block, a'.off + i * k + j, none⟩ = some u := by
      intro i
      by_cases hlt : i < len
      · obtain ⟨c, hc, htr⟩ := hcell i (by omega)
        obtain ⟨a, ha, hs⟩ := hel _ _ _ htr
        have hcl := hR a c ha
        obtain ⟨hb, hlen, hce⟩ := World.cells?_some hc
        rw [hk] at hce
        have hsp : a'.spot = none := hs0 (by omega)
        obtain ⟨bb, oo, s⟩ := a'
        obtain rfl : s = none := hsp
        have hcc : ∀ j u, c[j]? = some u → W.cell? ⟨bb, oo + i * k + j, none⟩ = some u := fun j u hj => by
          have hjl := (List.getElem?_eq_some_iff.1 hj).1
          have q := hce j (by omega)
          rw [Addr.add_lit, Addr.add_lit, hj] at q
          exact q
        refine ⟨a, c, fun _ => ⟨ha, hs, rfl, ?_, hcc⟩⟩
        obtain ⟨u, hu⟩ : ∃ u, c[0]? = some u := ⟨_, List.getElem?_eq_getElem (by omega)⟩
        exact World.block_lt_of_cell? W ⟨bb, oo + i * k + 0, none⟩ (hcc 0 u hu)
      · exact ⟨z, [], fun h => absurd h hlt⟩
    let fa : Nat → α := fun i => Classical.choose (key i)
    let fc : Nat → List Value := fun i => Classical.choose (Classical.choose_spec (key i))
    have hf : ∀ i, i < len → R (fa i) (fc i) ∧ S (Rows.uptoBulk (D i)) (fa i) ∧ a'.spot = none ∧ a'.block < W.heap.size ∧ ∀ j u, (fc i)[j]? = some u → W.cell? ⟨a'.block, a'.off + i * k + j, none⟩ = some u := fun i hi => Classical.choose_spec (Classical.choose_spec (key i)) hi
    have hb1 : Rows.uptoBulkAll ((List.range len).map D) ≤ Rows.uptoBulk (DataW.slice (List.map D (List.range len)) (List.map (fun j => D (len + j)) (List.range (m - len)))) := by
      simp only [Rows.uptoBulk]
      omega
    refine ⟨_, (List.range len).map fa, (List.range len).map fc, rfl, ⟨some a', cap, by simp, by simpa using hl, fun hp => ?_⟩, by simp, ?_, ?_, ?_⟩
    · have hp : 0 < len := by simpa using hp
      obtain ⟨-, -, hs, hbl, -⟩ := hf 0 hp
      obtain ⟨bb, oo, s⟩ := a'
      obtain rfl : s = none := hs
      refine ⟨bb, oo, rfl, hbl, fun i r hr j u hj => ?_⟩
      have hil := (List.getElem?_eq_some_iff.1 hr).1
      rw [List.length_map, List.length_range] at hil
      rw [List.getElem?_map, List.getElem?_range hil] at hr
      obtain rfl : fc i = r := by simpa using hr
      exact (hf i hil).2.2.2.2 j u hj
    · intro i a r ha hr
      have hil := (List.getElem?_eq_some_iff.1 ha).1
      rw [List.length_map, List.length_range] at hil
      rw [List.getElem?_map, List.getElem?_range hil] at ha hr
      obtain rfl : fa i = a := by simpa using ha
      obtain rfl : fc i = r := by simpa using hr
      exact (hf i hil).1
    · have := bulk_len ((List.range len).map D)
      rw [List.length_map, List.length_range] at this
      rw [List.length_map, List.length_range]
      show len ≤ Rows.uptoBulk (DataW.slice _ _)
      omega
    · intro a ha
      obtain ⟨i, hi, rfl⟩ := List.mem_map.1 ha
      rw [List.mem_range] at hi
      exact ⟨_, Nat.le_trans (bulk_mem _ _ (List.mem_map_of_mem (List.mem_range.2 hi))) hb1, (hf i hi).2.1⟩
end
end Go.Proofs.YtjndgkbikhndoaaGreatDoor

namespace Go.Proofs.YtjndgkbikhndoaaGreatDoor
open Go.ChangeShapes Go.WideShapes Go.ChangeAt Go.RowKit Go.Deep
set_option linter.unusedVariables false
set_option maxRecDepth 100000

theorem rows_eq {α : Type} {xs : List α} {rows : List (List Value)} {f : α → List Value} (hl : xs.length = rows.length) (h : ∀ (i : Nat) a r, xs[i]? = some a → rows[i]? = some r → r = f a) : rows = xs.map f := by
  refine List.ext_getElem? (fun i => ?_)
  rw [List.getElem?_map]
  by_cases hi : i < xs.length
  · have h1 := List.getElem?_eq_getElem hi
    have h2 := List.getElem?_eq_getElem (show i < rows.length by omega)
    rw [h1, h2, h i _ _ h1 h2]
    rfl
  · rw [List.getElem?_eq_none (by omega), List.getElem?_eq_none (by omega)]
    rfl
theorem part_le {H : Type} {xs : List (DataW H × List MemPlace)} {y : DataW H × List MemPlace} {i : Nat} (h : xs[i]? = some y) : Rows.uptoBulk y.1 ≤ Rows.uptoBulk (DataW.agg (xs.map (fun x => x.1))) := by
  have := bulk_mem (xs.map (fun x => x.1)) y.1 (List.mem_map_of_mem (List.mem_of_getElem? h))
  simp only [Rows.uptoBulk]
  omega
section
variable {H : Type} {enc : TypeId × Value → H} {W : World} {base : Nat} {spare : Nat → Bool} {held : Bool}
theorem open_str {fuel : Nat} {cs : List Value} {x : DataW H × List MemPlace} (h : DataW.trod enc Tryz.prog W base spare held fuel 9 cs = some x) : ∃ s, cs = [.string s] ∧ s.size ≤ Rows.uptoBulk x.1 := by
  obtain ⟨s, rfl, rfl, _⟩ := DataW.trod_string Tryz.underlying9 h
  refine ⟨s, rfl, ?_⟩
  have := toList_len s
  simp only [Rows.uptoBulk]
  omega
theorem open_num {fuel : Nat} {cs : List Value} {x : DataW H × List MemPlace} (h : DataW.trod enc Tryz.prog W base spare held fuel 3 cs = some x) : ∃ n, cs = [.int .i64 n] := by
  obtain ⟨n, rfl, _, _⟩ := DataW.trod_int Tryz.underlying3 h
  exact ⟨n, rfl⟩
theorem open_strs {fuel : Nat} {cs : List Value} {x : DataW H × List MemPlace} (h : DataW.trod enc Tryz.prog W base spare held fuel 22 cs = some x) :
    ∃ (v : Value) (ts : List ByteArray), cs = [v] ∧ Tbl W v 1 (strRows ts) ∧ ts.length ≤ Rows.uptoBulk x.1 ∧ ∀ t, t ∈ ts → t.size ≤ Rows.uptoBulk x.1 := by
  obtain ⟨v, ts, rows, rfl, ht, hl, hr, hb, hs⟩ := open_rows (α := ByteArray) Tryz.underlying22 cells9 (by decide) h (fun s c => c = [.string s]) (fun n s => s.size ≤ n) ByteArray.empty (fun a c e => by rw [e]; rfl) (fun fl c y hy => open_str hy)
  have he : rows = strRows ts := rows_eq hl (fun i a r h1 h2 => hr i a r h1 h2)
  rw [he] at ht
  exact ⟨v, ts, rfl, ht, hb, fun t ht => by obtain ⟨n, h1, h2⟩ := hs t ht; omega⟩
theorem open_nums {fuel : Nat} {cs : List Value} {x : DataW H × List MemPlace} (h : DataW.trod enc Tryz.prog W base spare held fuel 40 cs = some x) :
    ∃ (v : Value) (zs : List Int), cs = [v] ∧ Tbl W v 1 (intRows zs) ∧ zs.length ≤ Rows.uptoBulk x.1 := by
  obtain ⟨v, ts, rows, rfl, ht, hl, hr, hb, hs⟩ := open_rows (α := Int) Tryz.underlying40 cells3 (by decide) h (fun s c => c = [.int .i64 s]) (fun n s => True) 0 (fun a c e => by rw [e]; rfl) (fun fl c y hy => by obtain ⟨n, hn⟩ := open_num hy; exact ⟨n, hn, trivial⟩)
  have he : rows = intRows ts := rows_eq hl (fun i a r h1 h2 => hr i a r h1 h2)
  rw [he] at ht
  exact ⟨v, ts, rfl, ht, hb⟩

theorem open_host {fuel : Nat} {cs : List Value} {x : DataW H × List MemPlace} (h : DataW.trod enc Tryz.prog W base spare held fuel 45 cs = some x) : ∃ a : Ht, cs = htRow a ∧ a.name.size ≤ Rows.uptoBulk x.1 := by
  obtain ⟨xs, m, -, rfl, hl, hxl, hg⟩ := DataW.trod_struct Tryz.underlying45 h
  rw [cells45] at hl
  match cs, hl, xs, hxl with
  | [c0, c1, c2], _, [y0, y1, y2], _ =>
    have g0 : DataW.trod enc Tryz.prog W base spare held m 9 (List.take (Tryz.prog.cellsOf 9) (List.drop 0 [c0, c1, c2])) = some y0 := hg 0 _ rfl
    rw [cells9] at g0
    obtain ⟨s0, e0, b0⟩ := open_str g0
    have l0 := part_le (xs := [y0, y1, y2]) (i := 0) (y := y0) rfl
    have g1 : DataW.trod enc Tryz.prog W base spare held m 3 (List.take (Tryz.prog.cellsOf 3) (List.drop 1 [c0, c1, c2])) = some y1 := hg 1 _ rfl
    rw [cells3] at g1
    obtain ⟨s1, e1⟩ := open_num g1
    have g2 : DataW.trod enc Tryz.prog W base spare held m 3 (List.take (Tryz.prog.cellsOf 3) (List.drop 2 [c0, c1, c2])) = some y2 := hg 2 _ rfl
    rw [cells3] at g2
    obtain ⟨s2, e2⟩ := open_num g2
    simp at e0 e1 e2
    subst e0 e1 e2
    exact ⟨⟨s0, s1, s2⟩, rfl, by dsimp only; omega⟩
theorem open_hosts {fuel : Nat} {cs : List Value} {x : DataW H × List MemPlace} (h : DataW.trod enc Tryz.prog W base spare held fuel 33 cs = some x) :
    ∃ (v : Value) (hs : List Ht), cs = [v] ∧ Tbl W v 3 (hs.map htRow) ∧ hs.length ≤ Rows.uptoBulk x.1 ∧ ∀ a, a ∈ hs → a.name.size ≤ Rows.uptoBulk x.1 := by
  obtain ⟨v, ts, rows, rfl, ht, hl, hr, hb, hs⟩ := open_rows (α := Ht) Tryz.underlying33 cells45 (by decide) h (fun s c => c = htRow s) (fun n s => s.name.size ≤ n) ⟨ByteArray.empty, 0, 0⟩ (fun a c e => by rw [e]; rfl) (fun fl c y hy => open_host hy)
  have he : rows = ts.map htRow := rows_eq hl (fun i a r h1 h2 => hr i a r h1 h2)
  rw [he] at ht
  exact ⟨v, ts, rfl, ht, hb, fun t ht => by obtain ⟨n, h1, h2⟩ := hs t ht; omega⟩
/-- Sizes that a bulk bears. -/
structure MtB (n : Nat) (m : Mt) : Prop where
  host : m.host.size ≤ n
  pre : m.pre.size ≤ n
  ms : ∀ t, t ∈ m.methods → t.size ≤ n
  mn : m.methods.length ≤ n
  header : m.header.size ≤ n
  value : m.value.size ≤ n
theorem MtB.mono {a b : Nat} {m : Mt} (h : MtB a m) (hab : a ≤ b) : MtB b m := ⟨Nat.le_trans h.host hab, Nat.le_trans h.pre hab, fun t ht => Nat.le_trans (h.ms t ht) hab, Nat.le_trans h.mn hab, Nat.le_trans h.header hab, Nat.le_trans h.value hab⟩
def mtRow (m : Mt) (mv : Value) : List Value := [.string m.host, .string m.pre, mv, .string m.header, .string m.value]
theorem open_match {fuel : Nat} {cs : List Value} {x : DataW H × List MemPlace} (h : DataW.trod enc Tryz.prog W base spare held fuel 24 cs = some x) : ∃ (a : Mt) (mv : Value), cs = mtRow a mv ∧ Tbl W mv 1 (strRows a.methods) ∧ MtB (Rows.uptoBulk x.1) a := by
  obtain ⟨xs, m, -, rfl, hl, hxl, hg⟩ := DataW.trod_struct Tryz.underlying24 h
  rw [cells24] at hl
  match cs, hl, xs, hxl with
  | [c0, c1, c2, c3, c4], _, [y0, y1, y2, y3, y4], _ =>
    have g0 : DataW.trod enc Tryz.prog W base spare held m 9 (List.take (Tryz.prog.cellsOf 9) (List.drop 0 [c0, c1, c2, c3, c4])) = some y0 := hg 0 _ rfl
    rw [cells9] at g0
    obtain ⟨s0, e0, b0⟩ := open_str g0
    have l0 := part_le (xs := [y0, y1, y2, y3, y4]) (i := 0) (y := y0) rfl
    have g1 : DataW.trod enc Tryz.prog W base spare held m 9 (List.take (Tryz.prog.cellsOf 9) (List.drop 1 [c0, c1, c2, c3, c4])) = some y1 := hg 1 _ rfl
    rw [cells9] at g1
    obtain ⟨s1, e1, b1⟩ := open_str g1
    have l1 := part_le (xs := [y0, y1, y2, y3, y4]) (i := 1) (y := y1) rfl
    have g2 : DataW.trod enc Tryz.prog W base spare held m 22 (List.take (Tryz.prog.cellsOf 22) (List.drop 2 [c0, c1, c2, c3, c4])) = some y2 := hg 2 _ rfl
    rw [cells22] at g2
    obtain ⟨v2, s2, e2, t2, b2, d2⟩ := open_strs g2
    have l2 := part_le (xs := [y0, y1, y2, y3, y4]) (i := 2) (y := y2) rfl
    have g3 : DataW.trod enc Tryz.prog W base spare held m 9 (List.take (Tryz.prog.cellsOf 9) (List.drop 3 [c0, c1, c2, c3, c4])) = some y3 := hg 3 _ rfl
    rw [cells9] at g3
    obtain ⟨s3, e3, b3⟩ := open_str g3
    have l3 := part_le (xs := [y0, y1, y2, y3, y4]) (i := 3) (y := y3) rfl
    have g4 : DataW.trod enc Tryz.prog W base spare held m 9 (List.take (Tryz.prog.cellsOf 9) (List.drop 4 [c0, c1, c2, c3, c4])) = some y4 := hg 4 _ rfl
    rw [cells9] at g4
    obtain ⟨s4, e4, b4⟩ := open_str g4
    have l4 := part_le (xs := [y0, y1, y2, y3, y4]) (i := 4) (y := y4) rfl
    simp at e0 e1 e2 e3 e4
    subst e0 e1 e2 e3 e4
    exact ⟨⟨s0, s1, s2, s3, s4⟩, c2, rfl, t2, ⟨by dsimp only; omega, by dsimp only; omega, fun t ht => Nat.le_trans (d2 t ht) l2, by dsimp only; omega, by dsimp only; omega, by dsimp only; omega⟩⟩
theorem open_route {fuel : Nat} {cs : List Value} {x : DataW H × List MemPlace} (h : DataW.trod enc Tryz.prog W base spare held fuel 42 cs = some x) : ∃ a : Rt × (Value × Value), (cs = rtRow a.1 a.2.1 a.2.2 ∧ RtAt W a.1 a.2.1 a.2.2) ∧ (MtB (Rows.uptoBulk x.1) a.1.m ∧ a.1.hosts.length ≤ Rows.uptoBulk x.1) := by
  obtain ⟨xs, m, -, rfl, hl, hxl, hg⟩ := DataW.trod_struct Tryz.underlying42 h
  rw [cells42] at hl
  match cs, hl, xs, hxl with
  | [c0, c1, c2, c3, c4, c5, c6, c7, c8, c9, c10, c11, c12, c13, c14, c15, c16, c17, c18, c19, c20], _, [y0, y1, y2, y3, y4, y5, y6, y7, y8, y9, y10, y11, y12, y13, y14, y15, y16], _ =>
    have g0 : DataW.trod enc Tryz.prog W base spare held m 24 (List.take (Tryz.prog.cellsOf 24) (List.drop 0 [c0, c1, c2, c3, c4, c5, c6, c7, c8, c9, c10, c11, c12, c13, c14, c15, c16, c17, c18, c19, c20])) = some y0 := hg 0 _ rfl
    rw [cells24] at g0
    obtain ⟨m0, v0, e0, t0, b0⟩ := open_match g0
    have l0 := part_le (xs := [y0, y1, y2, y3, y4, y5, y6, y7, y8, y9, y10, y11, y12, y13, y14, y15, y16]) (i := 0) (y := y0) rfl
    have g1 : DataW.trod enc Tryz.prog W base spare held m 40 (List.take (Tryz.prog.cellsOf 40) (List.drop 5 [c0, c1, c2, c3, c4, c5, c6, c7, c8, c9, c10, c11, c12, c13, c14, c15, c16, c17, c18, c19, c20])) = some y1 := hg 1 _ rfl
    rw [cells40] at g1
    obtain ⟨v1, s1, e1, t1, b1⟩ := open_nums g1
    have l1 := part_le (xs := [y0, y1, y2, y3, y4, y5, y6, y7, y8, y9, y10, y11, y12, y13, y14, y15, y16]) (i := 1) (y := y1) rfl
    have g2 : DataW.trod enc Tryz.prog W base spare held m 3 (List.take (Tryz.prog.cellsOf 3) (List.drop 6 [c0, c1, c2, c3, c4, c5, c6, c7, c8, c9, c10, c11, c12, c13, c14, c15, c16, c17, c18, c19, c20])) = some y2 := hg 2 _ rfl
    rw [cells3] at g2
    obtain ⟨s2, e2⟩ := open_num g2
    have g3 : DataW.trod enc Tryz.prog W base spare held m 3 (List.take (Tryz.prog.cellsOf 3) (List.drop 7 [c0, c1, c2, c3, c4, c5, c6, c7, c8, c9, c10, c11, c12, c13, c14, c15, c16, c17, c18, c19, c20])) = some y3 := hg 3 _ rfl
    rw [cells3] at g3
    obtain ⟨s3, e3⟩ := open_num g3
    have g4 : DataW.trod enc Tryz.prog W base spare held m 3 (List.take (Tryz.prog.cellsOf 3) (List.drop 8 [c0, c1, c2, c3, c4, c5, c6, c7, c8, c9, c10, c11, c12, c13, c14, c15, c16, c17, c18, c19, c20])) = some y4 := hg 4 _ rfl
    rw [cells3] at g4
    obtain ⟨s4, e4⟩ := open_num g4
    have g5 : DataW.trod enc Tryz.prog W base spare held m 3 (List.take (Tryz.prog.cellsOf 3) (List.drop 9 [c0, c1, c2, c3, c4, c5, c6, c7, c8, c9, c10, c11, c12, c13, c14, c15, c16, c17, c18, c19, c20])) = some y5 := hg 5 _ rfl
    rw [cells3] at g5
    obtain ⟨s5, e5⟩ := open_num g5
    have g6 : DataW.trod enc Tryz.prog W base spare held m 3 (List.take (Tryz.prog.cellsOf 3) (List.drop 10 [c0, c1, c2, c3, c4, c5, c6, c7, c8, c9, c10, c11, c12, c13, c14, c15, c16, c17, c18, c19, c20])) = some y6 := hg 6 _ rfl
    rw [cells3] at g6
    obtain ⟨s6, e6⟩ := open_num g6
    have g7 : DataW.trod enc Tryz.prog W base spare held m 3 (List.take (Tryz.prog.cellsOf 3) (List.drop 11 [c0, c1, c2, c3, c4, c5, c6, c7, c8, c9, c10, c11, c12, c13, c14, c15, c16, c17, c18, c19, c20])) = some y7 := hg 7 _ rfl
    rw [cells3] at g7
    obtain ⟨s7, e7⟩ := open_num g7
    have g8 : DataW.trod enc Tryz.prog W base spare held m 3 (List.take (Tryz.prog.cellsOf 3) (List.drop 12 [c0, c1, c2, c3, c4, c5, c6, c7, c8, c9, c10, c11, c12, c13, c14, c15, c16, c17, c18, c19, c20])) = some y8 := hg 8 _ rfl
    rw [cells3] at g8
    obtain ⟨s8, e8⟩ := open_num g8
    have g9 : DataW.trod enc Tryz.prog W base spare held m 3 (List.take (Tryz.prog.cellsOf 3) (List.drop 13 [c0, c1, c2, c3, c4, c5, c6, c7, c8, c9, c10, c11, c12, c13, c14, c15, c16, c17, c18, c19, c20])) = some y9 := hg 9 _ rfl
    rw [cells3] at g9
    obtain ⟨s9, e9⟩ := open_num g9
    have g10 : DataW.trod enc Tryz.prog W base spare held m 3 (List.take (Tryz.prog.cellsOf 3) (List.drop 14 [c0, c1, c2, c3, c4, c5, c6, c7, c8, c9, c10, c11, c12, c13, c14, c15, c16, c17, c18, c19, c20])) = some y10 := hg 10 _ rfl
    rw [cells3] at g10
    obtain ⟨s10, e10⟩ := open_num g10
    have g11 : DataW.trod enc Tryz.prog W base spare held m 3 (List.take (Tryz.prog.cellsOf 3) (List.drop 15 [c0, c1, c2, c3, c4, c5, c6, c7, c8, c9, c10, c11, c12, c13, c14, c15, c16, c17, c18, c19, c20])) = some y11 := hg 11 _ rfl
    rw [cells3] at g11
    obtain ⟨s11, e11⟩ := open_num g11
    have g12 : DataW.trod enc Tryz.prog W base spare held m 3 (List.take (Tryz.prog.cellsOf 3) (List.drop 16 [c0, c1, c2, c3, c4, c5, c6, c7, c8, c9, c10, c11, c12, c13, c14, c15, c16, c17, c18, c19, c20])) = some y12 := hg 12 _ rfl
    rw [cells3] at g12
    obtain ⟨s12, e12⟩ := open_num g12
    have g13 : DataW.trod enc Tryz.prog W base spare held m 3 (List.take (Tryz.prog.cellsOf 3) (List.drop 17 [c0, c1, c2, c3, c4, c5, c6, c7, c8, c9, c10, c11, c12, c13, c14, c15, c16, c17, c18, c19, c20])) = some y13 := hg 13 _ rfl
    rw [cells3] at g13
    obtain ⟨s13, e13⟩ := open_num g13
    have g14 : DataW.trod enc Tryz.prog W base spare held m 3 (List.take (Tryz.prog.cellsOf 3) (List.drop 18 [c0, c1, c2, c3, c4, c5, c6, c7, c8, c9, c10, c11, c12, c13, c14, c15, c16, c17, c18, c19, c20])) = some y14 := hg 14 _ rfl
    rw [cells3] at g14
    obtain ⟨s14, e14⟩ := open_num g14
    have g15 : DataW.trod enc Tryz.prog W base spare held m 3 (List.take (Tryz.prog.cellsOf 3) (List.drop 19 [c0, c1, c2, c3, c4, c5, c6, c7, c8, c9, c10, c11, c12, c13, c14, c15, c16, c17, c18, c19, c20])) = some y15 := hg 15 _ rfl
    rw [cells3] at g15
    obtain ⟨s15, e15⟩ := open_num g15
    have g16 : DataW.trod enc Tryz.prog W base spare held m 3 (List.take (Tryz.prog.cellsOf 3) (List.drop 20 [c0, c1, c2, c3, c4, c5, c6, c7, c8, c9, c10, c11, c12, c13, c14, c15, c16, c17, c18, c19, c20])) = some y16 := hg 16 _ rfl
    rw [cells3] at g16
    obtain ⟨s16, e16⟩ := open_num g16
    simp at e0 e1 e2 e3 e4 e5 e6 e7 e8 e9 e10 e11 e12 e13 e14 e15 e16
    unfold mtRow at e0
    simp at e0
    obtain ⟨q0, q1, q2, q3, q4⟩ := e0
    subst q0 q1 q2 q3 q4 e1 e2 e3 e4 e5 e6 e7 e8 e9 e10 e11 e12 e13 e14 e15 e16
    exact ⟨(⟨m0, s1, s2, s3, s4, s5, s6, s7, s8, s9, s10, s11, s12, s13, s14, s15, s16⟩, (c2, c5)), ⟨rfl, ⟨t0, t1⟩⟩, ⟨b0.mono l0, Nat.le_trans b1 l1⟩⟩
theorem open_routes {fuel : Nat} {cs : List Value} {x : DataW H × List MemPlace} (h : DataW.trod enc Tryz.prog W base spare held fuel 34 cs = some x) :
    ∃ v rs ps, cs = [v] ∧ RtsAt W v rs ps ∧ rs.length ≤ Rows.uptoBulk x.1 ∧ ∀ a, a ∈ rs → MtB (Rows.uptoBulk x.1) a.m ∧ a.hosts.length ≤ Rows.uptoBulk x.1 := by
  obtain ⟨v, ts, rows, rfl, ht, hl, hr, hb, hs⟩ := open_rows (α := Rt × (Value × Value)) Tryz.underlying34 cells42 (by decide) h (fun a c => c = rtRow a.1 a.2.1 a.2.2 ∧ RtAt W a.1 a.2.1 a.2.2) (fun n a => MtB n a.1.m ∧ a.1.hosts.length ≤ n) ⟨⟨⟨ByteArray.empty, ByteArray.empty, [], ByteArray.empty, ByteArray.empty⟩, [], 0, 0, 0, 0, 0, 0, 0, 0, 0, 0, 0, 0, 0, 0, 0⟩, (.slice none 0 0, .slice none 0 0)⟩ (fun a c e => by rw [e.1]; rfl) (fun fl c y hy => open_route hy)
  have he : rows = ts.map (fun x => rtRow x.1 x.2.1 x.2.2) := rows_eq hl (fun i a r h1 h2 => (hr i a r h1 h2).1)
  have hz : (ts.map (fun a => a.1)).zip (ts.map (fun a => a.2)) = ts := by
    rw [List.zip_map']
    simp
  refine ⟨v, ts.map (fun a => a.1), ts.map (fun a => a.2), rfl, ⟨by simp, ?_, ?_⟩, by rw [List.length_map]; exact hb, ?_⟩
  · rw [hz, ← he]
    exact ht
  · intro i r p h1 h2
    rw [List.getElem?_map] at h1 h2
    obtain ⟨a, ha, rfl⟩ := Option.map_eq_some_iff.1 h1
    rw [ha] at h2
    obtain rfl : a.2 = p := by simpa using h2
    exact (hr i a _ ha (by rw [he, List.getElem?_map, ha]; rfl)).2
  · intro a ha
    obtain ⟨y, hy, rfl⟩ := List.mem_map.1 ha
    obtain ⟨n, h1, h2, h3⟩ := hs y hy
    exact ⟨h2.mono h1, Nat.le_trans h3 h1⟩
theorem open_cfs {fuel : Nat} {cs : List Value} {x : DataW H × List MemPlace} (h : DataW.trod enc Tryz.prog W base spare held fuel 36 cs = some x) : ∃ (c : Cf) (hv rv : Value) (ps : List (Value × Value)), cs = cfRow c hv rv ∧ CfAt W c hv rv ps ∧ (Rows.uptoBulk x.1 ≤ 1048576 → CfSz c) := by
  obtain ⟨xs, m, -, rfl, hl, hxl, hg⟩ := DataW.trod_struct Tryz.underlying36 h
  rw [cells36] at hl
  match cs, hl, xs, hxl with
  | [c0, c1, c2, c3, c4, c5, c6, c7, c8, c9, c10, c11, c12, c13, c14, c15, c16, c17], _, [y0, y1, y2, y3, y4, y5, y6, y7, y8, y9, y10, y11, y12, y13, y14, y15, y16, y17], _ =>
    have g0 : DataW.trod enc Tryz.prog W base spare held m 33 (List.take (Tryz.prog.cellsOf 33) (List.drop 0 [c0, c1, c2, c3, c4, c5, c6, c7, c8, c9, c10, c11, c12, c13, c14, c15, c16, c17])) = some y0 := hg 0 _ rfl
    rw [cells33] at g0
    obtain ⟨v0, s0, e0, t0, b0, d0⟩ := open_hosts g0
    have l0 := part_le (xs := [y0, y1, y2, y3, y4, y5, y6, y7, y8, y9, y10, y11, y12, y13, y14, y15, y16, y17]) (i := 0) (y := y0) rfl
    have g1 : DataW.trod enc Tryz.prog W base spare held m 34 (List.take (Tryz.prog.cellsOf 34) (List.drop 1 [c0, c1, c2, c3, c4, c5, c6, c7, c8, c9, c10, c11, c12, c13, c14, c15, c16, c17])) = some y1 := hg 1 _ rfl
    rw [cells34] at g1
    obtain ⟨v1, s1, ps, e1, t1, b1, d1⟩ := open_routes g1
    have l1 := part_le (xs := [y0, y1, y2, y3, y4, y5, y6, y7, y8, y9, y10, y11, y12, y13, y14, y15, y16, y17]) (i := 1) (y := y1) rfl
    have g2 : DataW.trod enc Tryz.prog W base spare held m 3 (List.take (Tryz.prog.cellsOf 3) (List.drop 2 [c0, c1, c2, c3, c4, c5, c6, c7, c8, c9, c10, c11, c12, c13, c14, c15, c16, c17])) = some y2 := hg 2 _ rfl
    rw [cells3] at g2
    obtain ⟨s2, e2⟩ := open_num g2
    have g3 : DataW.trod enc Tryz.prog W base spare held m 3 (List.take (Tryz.prog.cellsOf 3) (List.drop 3 [c0, c1, c2, c3, c4, c5, c6, c7, c8, c9, c10, c11, c12, c13, c14, c15, c16, c17])) = some y3 := hg 3 _ rfl
    rw [cells3] at g3
    obtain ⟨s3, e3⟩ := open_num g3
    have g4 : DataW.trod enc Tryz.prog W base spare held m 3 (List.take (Tryz.prog.cellsOf 3) (List.drop 4 [c0, c1, c2, c3, c4, c5, c6, c7, c8, c9, c10, c11, c12, c13, c14, c15, c16, c17])) = some y4 := hg 4 _ rfl
    rw [cells3] at g4
    obtain ⟨s4, e4⟩ := open_num g4
    have g5 : DataW.trod enc Tryz.prog W base spare held m 3 (List.take (Tryz.prog.cellsOf 3) (List.drop 5 [c0, c1, c2, c3, c4, c5, c6, c7, c8, c9, c10, c11, c12, c13, c14, c15, c16, c17])) = some y5 := hg 5 _ rfl
    rw [cells3] at g5
    obtain ⟨s5, e5⟩ := open_num g5
    have g6 : DataW.trod enc Tryz.prog W base spare held m 9 (List.take (Tryz.prog.cellsOf 9) (List.drop 6 [c0, c1, c2, c3, c4, c5, c6, c7, c8, c9, c10, c11, c12, c13, c14, c15, c16, c17])) = some y6 := hg 6 _ rfl
    rw [cells9] at g6
    obtain ⟨s6, e6, b6⟩ := open_str g6
    have l6 := part_le (xs := [y0, y1, y2, y3, y4, y5, y6, y7, y8, y9, y10, y11, y12, y13, y14, y15, y16, y17]) (i := 6) (y := y6) rfl
    have g7 : DataW.trod enc Tryz.prog W base spare held m 3 (List.take (Tryz.prog.cellsOf 3) (List.drop 7 [c0, c1, c2, c3, c4, c5, c6, c7, c8, c9, c10, c11, c12, c13, c14, c15, c16, c17])) = some y7 := hg 7 _ rfl
    rw [cells3] at g7
    obtain ⟨s7, e7⟩ := open_num g7
    have g8 : DataW.trod enc Tryz.prog W base spare held m 3 (List.take (Tryz.prog.cellsOf 3) (List.drop 8 [c0, c1, c2, c3, c4, c5, c6, c7, c8, c9, c10, c11, c12, c13, c14, c15, c16, c17])) = some y8 := hg 8 _ rfl
    rw [cells3] at g8
    obtain ⟨s8, e8⟩ := open_num g8
    have g9 : DataW.trod enc Tryz.prog W base spare held m 3 (List.take (Tryz.prog.cellsOf 3) (List.drop 9 [c0, c1, c2, c3, c4, c5, c6, c7, c8, c9, c10, c11, c12, c13, c14, c15, c16, c17])) = some y9 := hg 9 _ rfl
    rw [cells3] at g9
    obtain ⟨s9, e9⟩ := open_num g9
    have g10 : DataW.trod enc Tryz.prog W base spare held m 3 (List.take (Tryz.prog.cellsOf 3) (List.drop 10 [c0, c1, c2, c3, c4, c5, c6, c7, c8, c9, c10, c11, c12, c13, c14, c15, c16, c17])) = some y10 := hg 10 _ rfl
    rw [cells3] at g10
    obtain ⟨s10, e10⟩ := open_num g10
    have g11 : DataW.trod enc Tryz.prog W base spare held m 3 (List.take (Tryz.prog.cellsOf 3) (List.drop 11 [c0, c1, c2, c3, c4, c5, c6, c7, c8, c9, c10, c11, c12, c13, c14, c15, c16, c17])) = some y11 := hg 11 _ rfl
    rw [cells3] at g11
    obtain ⟨s11, e11⟩ := open_num g11
    have g12 : DataW.trod enc Tryz.prog W base spare held m 3 (List.take (Tryz.prog.cellsOf 3) (List.drop 12 [c0, c1, c2, c3, c4, c5, c6, c7, c8, c9, c10, c11, c12, c13, c14, c15, c16, c17])) = some y12 := hg 12 _ rfl
    rw [cells3] at g12
    obtain ⟨s12, e12⟩ := open_num g12
    have g13 : DataW.trod enc Tryz.prog W base spare held m 3 (List.take (Tryz.prog.cellsOf 3) (List.drop 13 [c0, c1, c2, c3, c4, c5, c6, c7, c8, c9, c10, c11, c12, c13, c14, c15, c16, c17])) = some y13 := hg 13 _ rfl
    rw [cells3] at g13
    obtain ⟨s13, e13⟩ := open_num g13
    have g14 : DataW.trod enc Tryz.prog W base spare held m 3 (List.take (Tryz.prog.cellsOf 3) (List.drop 14 [c0, c1, c2, c3, c4, c5, c6, c7, c8, c9, c10, c11, c12, c13, c14, c15, c16, c17])) = some y14 := hg 14 _ rfl
    rw [cells3] at g14
    obtain ⟨s14, e14⟩ := open_num g14
    have g15 : DataW.trod enc Tryz.prog W base spare held m 3 (List.take (Tryz.prog.cellsOf 3) (List.drop 15 [c0, c1, c2, c3, c4, c5, c6, c7, c8, c9, c10, c11, c12, c13, c14, c15, c16, c17])) = some y15 := hg 15 _ rfl
    rw [cells3] at g15
    obtain ⟨s15, e15⟩ := open_num g15
    have g16 : DataW.trod enc Tryz.prog W base spare held m 3 (List.take (Tryz.prog.cellsOf 3) (List.drop 16 [c0, c1, c2, c3, c4, c5, c6, c7, c8, c9, c10, c11, c12, c13, c14, c15, c16, c17])) = some y16 := hg 16 _ rfl
    rw [cells3] at g16
    obtain ⟨s16, e16⟩ := open_num g16
    have g17 : DataW.trod enc Tryz.prog W base spare held m 3 (List.take (Tryz.prog.cellsOf 3) (List.drop 17 [c0, c1, c2, c3, c4, c5, c6, c7, c8, c9, c10, c11, c12, c13, c14, c15, c16, c17])) = some y17 := hg 17 _ rfl
    rw [cells3] at g17
    obtain ⟨s17, e17⟩ := open_num g17
    simp at e0 e1 e2 e3 e4 e5 e6 e7 e8 e9 e10 e11 e12 e13 e14 e15 e16 e17
    subst e0 e1 e2 e3 e4 e5 e6 e7 e8 e9 e10 e11 e12 e13 e14 e15 e16 e17
    refine ⟨⟨s0, s1, s2, s3, s4, s5, s6, s7, s8, s9, s10, s11, s12, s13, s14, s15, s16, s17⟩, c0, c1, ps, rfl, ⟨t0, t1⟩, fun hb => ⟨fun a ha => Nat.le_trans (d0 a ha) (Nat.le_trans l0 hb), fun a ha => ?_, Nat.le_trans b0 (Nat.le_trans l0 hb), Nat.le_trans b1 (Nat.le_trans l1 hb), Nat.le_trans b6 (Nat.le_trans l6 hb)⟩⟩
    obtain ⟨h1, h2⟩ := d1 a ha
    have h3 := h1.mono (Nat.le_trans l1 hb)
    exact ⟨⟨h3.host, h3.pre, h3.ms, h3.mn, h3.header, h3.value⟩, Nat.le_trans h2 (Nat.le_trans l1 hb)⟩
theorem open_cfg {b0 : Nat} {v : Value} {d : DataW H} {ps0 : List MemPlace} (hv : Value.okWide Tryz.prog W .any b0 36 v) (h : DataW.Trod enc Tryz.prog W base spare held 36 v d ps0) :
    ∃ (c : Cf) (hv rv : Value) (ps : List (Value × Value)), v = .agg (cfRow c hv rv).toArray ∧ CfAt W c hv rv ps ∧ (Rows.uptoBulk d ≤ 1048576 → CfSz c) := by
  obtain ⟨cs, rfl, hcs⟩ := okWide_struct Tryz.underlying36 hv
  obtain ⟨fuel, hf⟩ := h
  obtain ⟨c, q1, q2, ps, e, hC, hS⟩ := open_cfs hf
  refine ⟨c, q1, q2, ps, ?_, hC, hS⟩
  obtain ⟨cs⟩ := cs
  have e : cs = cfRow c q1 q2 := by simpa [Value.cells] using e
  rw [e]
end
end Go.Proofs.YtjndgkbikhndoaaGreatDoor

namespace Go.Proofs.YtjndgkbikhndoaaGreatDoor
open Go.ChangeShapes Go.WideShapes Go.ChangeAt Go.RowKit
set_option linter.unusedVariables false

def cell1 : DataW Unit → List Value
  | .lit (.int k n) => [.int k n]
  | _ => []
def cells1 : DataW Unit → List Value
  | .agg ps => ps.flatMap cell1
  | _ => []
def cells2 : DataW Unit → List Value
  | .agg ps => ps.flatMap cells1
  | _ => []
def putCells (cs : List Value) : Obj → Obj
  | .cells _ t frozen => .cells cs.toArray t frozen
  | o => o
def xRange : ByteArray := ⟨#[118, 97, 108, 117, 101, 32, 111, 117, 116, 32, 111, 102, 32, 114, 97, 110, 103, 101]⟩
def xSyntax : ByteArray := ⟨#[105, 110, 118, 97, 108, 105, 100, 32, 115, 121, 110, 116, 97, 120]⟩
noncomputable def held (os : Os) : World := World.holding Tryz.prog os ⟨#[.cells #[.string xRange] 178, .cells #[.string xSyntax] 178], #[], []⟩
noncomputable def laidWorld (os : Os) : World :=
  { held os with heap := (((((((held os).heap.modify 6 (putCells (cells1 Rows.laid_math_bits_deBruijn32tab))).modify 7 (putCells (cells1 Rows.laid_math_bits_deBruijn64tab))).modify 5 (putCells (cells1 Rows.laid_internal_strconv_uint64pow10))).modify 4 (putCells (cells2 Rows.laid_unicode_utf8_acceptRanges))).modify 3 (putCells (cells1 Rows.laid_unicode_utf8_first))).modify 2 (putCells [.iface 176 (.pointer (some ⟨(World.settled Tryz.prog os).heap.size, 0, none⟩))])).modify 1 (putCells [.iface 176 (.pointer (some ⟨(World.settled Tryz.prog os).heap.size + 1, 0, none⟩))]) }
def argsC : Array Value := #[.agg #[.slice none 0 0, .slice none 0 0, .int .i64 0, .int .i64 0, .int .i64 0, .int .i64 0, .string ⟨#[]⟩, .int .i64 0, .int .i64 0, .int .i64 0, .int .i64 0, .int .i64 0, .int .i64 0, .int .i64 0, .int .i64 0, .int .i64 0, .int .i64 0, .int .i64 0]]
theorem laid_metC (os : Os) : laidMet Tryz.prog Rows.configTurnedUptoRow.laid ((laidWorld os).forCall (fun _ _ => 0) ⟨#[], argsC, []⟩).memory :=
  laidMet_of_run' 8 (by kernel_rfl) (by kernel_rfl)
def nmOf : DataW Unit → String
  | .iface nm _ => nm
  | _ => "x"
def errName : String := nmOf Rows.laid_strconv_ErrSyntax
theorem row176 (u : TypeId) (h : Tryz.prog.typeName? 3 u = some errName) : u = 176 := by
  have key : ∀ q : String, q = errName → ((List.range Tryz.prog.types.size).all fun u => Tryz.prog.typeName? 3 u != some q || u == 176) = true := by
    rintro q rfl
    kernel_rfl
  exact typeName_ptr_named (nm := "errors.errorString") (key _ (by decide +kernel)) (by kernel_rfl) (by decide) u (h.trans (congrArg some (by decide +kernel)))
theorem env_of {W : World} (hL : laidMet Tryz.prog Rows.configTurnedUptoRow.laid W) (hS : W.ShapedOpen Tryz.prog) : Env W := by
  refine ⟨cell_of_shapedOpen_int (P := Tryz.prog) (g := 0) (t := 3) (zero := #[.int .i64 0]) hS (by decide +kernel) (by kernel_rfl) rfl (by kernel_rfl) (by kernel_rfl) Tryz.underlying3, ?_⟩
  obtain ⟨a, t, hv, -⟩ := laid_sentinel (g := 1) hL.tail.tail.tail.tail.tail (by kernel_rfl) (by kernel_rfl) Tryz.underlying105 row176 Tryz.underlying176 Tryz.underlying178 rfl rfl Tryz.underlying9 (by kernel_rfl) (by kernel_rfl)
  have h0 := World.var?_cell (P := Tryz.prog) (g := 1) (by kernel_rfl) hv 0
  exact ⟨_, _, by simpa using h0⟩
end Go.Proofs.YtjndgkbikhndoaaGreatDoor
