/- What an argument reads as that is a match, a head, or a pair of texts. -/
import Derived.Test.YtjndgkbikhndoaaGreatDoorM8
import Derived.Test.YtjndgkbikhndoaaGreatDoorY5
import Derived.Test.YtjndgkbikhndoaaGreatDoorYK
namespace Go.Proofs.YtjndgkbikhndoaaGreatDoor
open Go.ChangeShapes Go.WideShapes Go.ChangeAt Go.RowKit Go.Deep
set_option linter.unusedVariables false
set_option maxRecDepth 100000

theorem cells56 : Tryz.prog.cellsOf 56 = 2 := by kernel_rfl
section
variable {H : Type} {enc : TypeId × Value → H} {W : World} {base : Nat} {spare : Nat → Bool} {held : Bool}
set_option maxRecDepth 100000 in
theorem open_field {fuel : Nat} {cs : List Value} {x : DataW H × List MemPlace} (h : DataW.trod enc Tryz.prog W base spare held fuel 56 cs = some x) :
    ∃ f : Fd, cs = [.string f.1, .string f.2] ∧ lensF [f] + 3 ≤ Rows.uptoBulk x.1 := by
  obtain ⟨y0, y1, n, rfl, hl, h0, h1⟩ := trod_struct2 Tryz.underlying56 h
  rw [cells56] at hl
  match cs, hl with
  | [c0, c1], _ =>
    dsimp only at h0 h1
    rw [cells9] at h0 h1
    obtain ⟨s0, e0, rfl, _⟩ := DataW.trod_string Tryz.underlying9 h0
    obtain ⟨s1, e1, rfl, _⟩ := DataW.trod_string Tryz.underlying9 h1
    simp at e0 e1
    subst e0 e1
    refine ⟨(s0, s1), rfl, ?_⟩
    have l0 := toList_len s0
    have l1 := toList_len s1
    simp only [Rows.uptoBulk, Rows.uptoBulkAll, lensF, List.map_cons, List.map_nil, List.sum_cons, List.sum_nil]
    omega
theorem bulk_map (f : Nat → Fd) (D : Nat → DataW H) (n : Nat) (h : ∀ i, i < n → lensF [f i] + 3 ≤ Rows.uptoBulk (D i)) : lensF ((List.range n).map f) + 3 * n ≤ Rows.uptoBulkAll ((List.range n).map D) := by
  induction n with
  | zero => simp [lensF]
  | succ n ih =>
    have h1 := ih (fun i hi => h i (by omega))
    have h2 := h n (by omega)
    have ha : ∀ (l r : List (DataW H)), Rows.uptoBulkAll (l ++ r) = Rows.uptoBulkAll l + Rows.uptoBulkAll r := by
      intro l r
      induction l with
      | nil => simp [Rows.uptoBulkAll]
      | cons x l ih => simp only [List.cons_append, Rows.uptoBulkAll, ih]; omega
    rw [List.range_succ, List.map_append, List.map_append, ha]
    have hb : lensF ((List.range n).map f ++ [f n]) = lensF ((List.range n).map f) + lensF [f n] := by
      unfold lensF
      rw [List.map_append, List.sum_append]
    show lensF (_ ++ [f n]) + _ ≤ _ + Rows.uptoBulkAll [D n]
    rw [hb]
    simp only [Rows.uptoBulkAll]
    omega
set_option maxRecDepth 100000 in
theorem open_flds {fuel : Nat} {cs : List Value} {x : DataW H × List MemPlace} (h : DataW.trod enc Tryz.prog W base spare held fuel 25 cs = some x) :
    ∃ (v : Value) (fs : List Fd), cs = [v] ∧ (Flds W v fs ∧ Nil0 v) ∧ lensF fs + 3 * fs.length ≤ Rows.uptoBulk x.1 := by
  rcases open_slice Tryz.underlying25 h with ⟨rfl, rfl⟩ | ⟨a', len, cap, m, n, D, Pl, rfl, _, hl, hm, hme, rfl, hcell⟩
  · exact ⟨_, [], rfl, ⟨⟨none, 0, rfl, Nat.le_refl _, fun h => by simp at h⟩, fun n c e => by injection e with _ h1 h2; exact ⟨h1.symm, h2.symm⟩⟩, by simp [lensF]⟩
  · skip
    have hl2 : len ≤ m := by
      rw [hme]
      split
      · exact hl
      · exact Nat.le_refl _
    have hs0 : 0 < len → a'.spot = none := fun hpos => by
      obtain ⟨cs', hc, htr⟩ := hcell 0 (by omega)
      obtain ⟨f, rfl, hbk⟩ := open_field htr
      obtain ⟨hb, hlen, hce⟩ := World.cells?_some hc
      have q0 := hce 0 (by rw [cells56]; omega)
      have q00 : W.cell? ((a'.add (0 * Tryz.prog.cellsOf 56)).add 0) = some (.string f.1) := q0
      have hsp := World.cell?_spot q00
      rw [Nat.zero_mul] at hsp
      simpa [Addr.add] using hsp
    have key : ∀ i, ∃ f : Fd, i < len → lensF [f] + 3 ≤ Rows.uptoBulk (D i) ∧ a'.spot = none ∧ W.cell? ⟨a'.block, a'.off + i * 2, none⟩ = some (.string f.1) ∧ W.cell? ⟨a'.block, a'.off + i * 2 + 1, none⟩ = some (.string f.2) := by
      intro i
      by_cases hlt : i < len
      · obtain ⟨cs', hc, htr⟩ := hcell i (by omega)
        obtain ⟨f, rfl, hbk⟩ := open_field htr
        obtain ⟨hb, hlen, hce⟩ := World.cells?_some hc
        have q0 := hce 0 (by rw [cells56]; omega)
        have q1 := hce 1 (by rw [cells56]; omega)
        have hsp : a'.spot = none := hs0 (by omega)
        obtain ⟨b, o, s⟩ := a'
        obtain rfl : s = none := hsp
        rw [cells56, Addr.add_lit, Addr.add_lit] at q0 q1
        exact ⟨f, fun _ => ⟨hbk, rfl, q0, q1⟩⟩
      · exact ⟨(ByteArray.empty, ByteArray.empty), fun h => absurd h hlt⟩
    let f : Nat → Fd := fun i => Classical.choose (key i)
    have hfs : ∀ i, i < len → lensF [f i] + 3 ≤ Rows.uptoBulk (D i) ∧ a'.spot = none ∧ W.cell? ⟨a'.block, a'.off + i * 2, none⟩ = some (.string (f i).1) ∧ W.cell? ⟨a'.block, a'.off + i * 2 + 1, none⟩ = some (.string (f i).2) := fun i hi => Classical.choose_spec (key i) hi
    have hfl : ((List.range len).map f).length = len := by simp
    refine ⟨_, (List.range len).map f, rfl, ⟨⟨some a', cap, by rw [hfl], by rw [hfl]; exact hl, fun hp => ?_⟩, fun x y e => by injection e with e; cases e⟩, ?_⟩
    · rw [hfl] at hp
      obtain ⟨_, hs, q0, _⟩ := hfs 0 hp
      obtain ⟨b, o, s⟩ := a'
      obtain rfl : s = none := hs
      refine ⟨b, o, rfl, World.block_lt_of_cell? W _ q0, fun j g hj => ?_⟩
      have hjl := (List.getElem?_eq_some_iff.1 hj).1
      rw [hfl] at hjl
      rw [List.getElem?_map, List.getElem?_range hjl] at hj
      injection hj with hj
      subst hj
      exact ⟨(hfs j hjl).2.2.1, (hfs j hjl).2.2.2⟩
    · have := bulk_map f D len (fun i hi => (hfs i hi).1)
      rw [hfl]
      simp only [Rows.uptoBulk]
      omega
theorem lens_mem {fs : List Fd} {f : Fd} (h : f ∈ fs) : f.1.size + f.2.size ≤ lensF fs := by
  induction fs with
  | nil => cases h
  | cons g fs ih =>
    have e : lensF (g :: fs) = g.1.size + g.2.size + lensF fs := rfl
    rcases List.mem_cons.1 h with rfl | h
    · omega
    · have := ih h
      omega
theorem cells27 : Tryz.prog.cellsOf 27 = 7 := by kernel_rfl
theorem cells25 : Tryz.prog.cellsOf 25 = 1 := by kernel_rfl
theorem cells4 : Tryz.prog.cellsOf 4 = 1 := by kernel_rfl
theorem cells28 : Tryz.prog.cellsOf 28 = 2 := by kernel_rfl
theorem open_boolc {fuel : Nat} {cs : List Value} {x : DataW H × List MemPlace} (h : DataW.trod enc Tryz.prog W base spare held fuel 4 cs = some x) : ∃ b, cs = [.bool b] := by
  obtain ⟨b, rfl, _⟩ := DataW.trod_bool Tryz.underlying4 h
  exact ⟨b, rfl⟩
structure HdB (n : Nat) (h : Hd) : Prop where
  method : h.method.size ≤ n
  target : h.target.size ≤ n
  fs : lensF h.fields + 3 * h.fields.length ≤ n
set_option maxRecDepth 100000 in
theorem open_head {fuel : Nat} {cs : List Value} {x : DataW H × List MemPlace} (h : DataW.trod enc Tryz.prog W base spare held fuel 27 cs = some x) :
    ∃ (a : Hd) (fv : Value), cs = hdRow a fv ∧ (Flds W fv a.fields ∧ Nil0 fv) ∧ HdB (Rows.uptoBulk x.1) a := by
  obtain ⟨xs, m, -, rfl, hl, hxl, hg⟩ := DataW.trod_struct Tryz.underlying27 h
  rw [cells27] at hl
  match cs, hl, xs, hxl with
  | [c0, c1, c2, c3, c4, c5, c6], _, [y0, y1, y2, y3, y4, y5, y6], _ =>
    have g0 : DataW.trod enc Tryz.prog W base spare held m 4 (List.take (Tryz.prog.cellsOf 4) (List.drop 0 [c0, c1, c2, c3, c4, c5, c6])) = some y0 := hg 0 _ rfl
    rw [cells4] at g0
    obtain ⟨s0, e0⟩ := open_boolc g0
    have l0 := part_le (xs := [y0, y1, y2, y3, y4, y5, y6]) (i := 0) (y := y0) rfl
    have g1 : DataW.trod enc Tryz.prog W base spare held m 9 (List.take (Tryz.prog.cellsOf 9) (List.drop 1 [c0, c1, c2, c3, c4, c5, c6])) = some y1 := hg 1 _ rfl
    rw [cells9] at g1
    obtain ⟨s1, e1, b1⟩ := open_str g1
    have l1 := part_le (xs := [y0, y1, y2, y3, y4, y5, y6]) (i := 1) (y := y1) rfl
    have g2 : DataW.trod enc Tryz.prog W base spare held m 9 (List.take (Tryz.prog.cellsOf 9) (List.drop 2 [c0, c1, c2, c3, c4, c5, c6])) = some y2 := hg 2 _ rfl
    rw [cells9] at g2
    obtain ⟨s2, e2, b2⟩ := open_str g2
    have l2 := part_le (xs := [y0, y1, y2, y3, y4, y5, y6]) (i := 2) (y := y2) rfl
    have g3 : DataW.trod enc Tryz.prog W base spare held m 3 (List.take (Tryz.prog.cellsOf 3) (List.drop 3 [c0, c1, c2, c3, c4, c5, c6])) = some y3 := hg 3 _ rfl
    rw [cells3] at g3
    obtain ⟨s3, e3⟩ := open_num g3
    have l3 := part_le (xs := [y0, y1, y2, y3, y4, y5, y6]) (i := 3) (y := y3) rfl
    have g4 : DataW.trod enc Tryz.prog W base spare held m 3 (List.take (Tryz.prog.cellsOf 3) (List.drop 4 [c0, c1, c2, c3, c4, c5, c6])) = some y4 := hg 4 _ rfl
    rw [cells3] at g4
    obtain ⟨s4, e4⟩ := open_num g4
    have l4 := part_le (xs := [y0, y1, y2, y3, y4, y5, y6]) (i := 4) (y := y4) rfl
    have g5 : DataW.trod enc Tryz.prog W base spare held m 9 (List.take (Tryz.prog.cellsOf 9) (List.drop 5 [c0, c1, c2, c3, c4, c5, c6])) = some y5 := hg 5 _ rfl
    rw [cells9] at g5
    obtain ⟨s5, e5, b5⟩ := open_str g5
    have l5 := part_le (xs := [y0, y1, y2, y3, y4, y5, y6]) (i := 5) (y := y5) rfl
    have g6 : DataW.trod enc Tryz.prog W base spare held m 25 (List.take (Tryz.prog.cellsOf 25) (List.drop 6 [c0, c1, c2, c3, c4, c5, c6])) = some y6 := hg 6 _ rfl
    rw [cells25] at g6
    obtain ⟨v6, s6, e6, t6, b6⟩ := open_flds g6
    have l6 := part_le (xs := [y0, y1, y2, y3, y4, y5, y6]) (i := 6) (y := y6) rfl
    simp at e0 e1 e2 e3 e4 e5 e6
    subst e0 e1 e2 e3 e4 e5 e6
    exact ⟨⟨s0, s1, s2, s3, s4, s5, s6⟩, c6, rfl, t6, ⟨Nat.le_trans b1 l1, Nat.le_trans b2 l2, Nat.le_trans b6 l6⟩⟩
theorem HdB.sz {n : Nat} {h : Hd} (hb : HdB n h) (hn : n ≤ 1048576) : HdSz h :=
  ⟨Nat.le_trans hb.method hn, Nat.le_trans hb.target hn, ⟨by have := hb.fs; omega, by have := hb.fs; omega, fun f hf => by have := lens_mem hf; have := hb.fs; omega⟩⟩
theorem open_hd {b0 : Nat} {v : Value} {d : DataW H} {ps0 : List MemPlace} (hv : Value.okWide Tryz.prog W .any b0 27 v) (h : DataW.Trod enc Tryz.prog W base spare held 27 v d ps0) :
    ∃ (a : Hd) (fv : Value), v = .agg (hdRow a fv).toArray ∧ Flds W fv a.fields ∧ (Rows.uptoBulk d ≤ 1048576 → HdSz a) ∧ Nil0 fv ∧ lensF a.fields + 3 * a.fields.length ≤ Rows.uptoBulk d := by
  obtain ⟨cs, rfl, hcs⟩ := okWide_struct Tryz.underlying27 hv
  obtain ⟨fuel, hf⟩ := h
  obtain ⟨a, fv, e, hF, hB⟩ := open_head hf
  refine ⟨a, fv, ?_, hF.1, fun hn => hB.sz hn, hF.2, hB.fs⟩
  obtain ⟨cs⟩ := cs
  have e : cs = hdRow a fv := by simpa [Value.cells] using e
  rw [e]
theorem open_mt {b0 : Nat} {v : Value} {d : DataW H} {ps0 : List MemPlace} (hv : Value.okWide Tryz.prog W .any b0 24 v) (h : DataW.Trod enc Tryz.prog W base spare held 24 v d ps0) :
    ∃ (a : Mt) (mv : Value), v = .agg (maRow a mv).toArray ∧ Tbl W mv 1 (strRows a.methods) ∧ (Rows.uptoBulk d ≤ 1048576 → MtSz a) := by
  obtain ⟨cs, rfl, hcs⟩ := okWide_struct Tryz.underlying24 hv
  obtain ⟨fuel, hf⟩ := h
  obtain ⟨a, mv, e, hF, hB⟩ := open_match hf
  refine ⟨a, mv, ?_, hF, fun hn => ?_⟩
  · obtain ⟨cs⟩ := cs
    have e : cs = mtRow a mv := by simpa [Value.cells] using e
    rw [e]
    rfl
  · have q := hB.mono hn
    exact ⟨q.host, q.pre, q.ms, q.mn, q.header, q.value⟩
theorem ok_two {b0 : Nat} {v : Value} (hv : Value.okWide Tryz.prog W .any b0 28 v) : ∃ cs, v = .agg cs := by
  simp only [Value.okWide, Tryz.underlying28] at hv
  obtain ⟨cs, h1, _⟩ := hv
  exact ⟨cs, h1⟩
theorem open_two {v : Value} {d : DataW H} {ps0 : List MemPlace} (hv : ∃ cs, v = .agg cs) (h : DataW.Trod enc Tryz.prog W base spare held 28 v d ps0) :
    ∃ (a b : ByteArray), v = .agg #[.string a, .string b] ∧ (Rows.uptoBulk d ≤ 1048576 → a.size ≤ 1048576 ∧ b.size ≤ 1048576) := by
  obtain ⟨cs, rfl⟩ := hv
  obtain ⟨fuel, hf⟩ := h
  obtain ⟨xs, m, -, hx, hl, hxl, hg⟩ := DataW.trod_array Tryz.underlying28 hf
  obtain ⟨cs⟩ := cs
  have e : Value.cells (.agg ⟨cs⟩) = ⟨cs⟩ := by simp [Value.cells]
  rw [cells28] at hl
  match cs, hl, xs, hxl with
  | [c0, c1], _, [y0, y1], _ =>
    have g0 : DataW.trod enc Tryz.prog W base spare held m 9 (List.take (Tryz.prog.cellsOf 9) (List.drop (0 * Tryz.prog.cellsOf 9) [c0, c1])) = some y0 := hg 0 (by decide)
    have g1 : DataW.trod enc Tryz.prog W base spare held m 9 (List.take (Tryz.prog.cellsOf 9) (List.drop (1 * Tryz.prog.cellsOf 9) [c0, c1])) = some y1 := hg 1 (by decide)
    rw [cells9] at g0 g1
    obtain ⟨s0, e0, b0⟩ := open_str g0
    obtain ⟨s1, e1, b1⟩ := open_str g1
    have l0 := part_le (xs := [y0, y1]) (i := 0) (y := y0) rfl
    have l1 := part_le (xs := [y0, y1]) (i := 1) (y := y1) rfl
    simp at e0 e1
    subst e0 e1
    have hd : d = DataW.agg (List.map (fun x => x.1) [y0, y1]) := (Prod.mk.inj hx).1
    rw [hd]
    exact ⟨s0, s1, rfl, fun hn => ⟨by omega, by omega⟩⟩
end
end Go.Proofs.YtjndgkbikhndoaaGreatDoor
