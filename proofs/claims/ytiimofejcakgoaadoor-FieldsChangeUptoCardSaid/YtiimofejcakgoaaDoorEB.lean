/- Layer 5 (bytes): the program's List: its closure. -/
import Derived.Test.YtiimofejcakgoaaDoorEA
namespace Go.Proofs.YtiimofejcakgoaaDoor
open Go.RowKit Go.ChangeShapes Go.WideShapes
set_option linter.unusedVariables false

/-- The memory of the program's List: s, out, from lie in the blocks p, p + 1, p + 2. -/
structure PutSt (w0 : World) (p : Nat) (W : World) (s : ByteArray) (fr : Nat) (v : Value) (dn : List ByteArray) : Prop where
  bs : Blk W p [.string s] 9
  bo : Blk W (p + 1) [v] 29
  own : OwnS (p + 3) W v dn
  bf : Blk W (p + 2) [.int .i64 (fr : Int)] 3
  chg : Chg [] w0 W
  low : w0.heap.size ≤ p
theorem PutSt.after {w0 W W' : World} {p fr : Nat} {s : ByteArray} {v : Value} {dn : List ByteArray} (h : PutSt w0 p W s fr v dn) (hc : Chg [] W W') : PutSt w0 p W' s fr v dn :=
  ⟨h.bs.chg hc (by simp), h.bo.chg hc (by simp), h.own.chg hc, h.bf.chg hc (by simp), h.chg.trans hc (by simp), h.low⟩
theorem PutSt.from' {w0 W : World} {p fr : Nat} {s : ByteArray} {v : Value} {dn : List ByteArray} (h : PutSt w0 p W s fr v dn) (tt : Nat) : PutSt w0 p (W.setCell ⟨p + 2, 0, none⟩ (.int .i64 (tt : Int))) s tt v dn :=
  ⟨h.bs.other (by show p ≠ p + 2; omega) _, h.bo.other (by show p + 1 ≠ p + 2; omega) _, by
    refine ⟨h.own.1, ?_⟩
    rcases h.own.2 with h2 | ⟨g, cap, cur, rfl, hb, hh, r⟩
    · exact .inl h2
    · exact .inr ⟨g, cap, cur, rfl, hb, by rw [Below.heap_setCell _ _ _ _ (by show g ≠ p + 2; omega)]; exact hh, r⟩, h.bf.set 0 _, h.chg.setCell (by intro hlt; have := h.low; dsimp only at hlt; omega) _, h.low⟩
theorem PutSt.pushed {w0 W W5 : World} {p fr : Nat} {s : ByteArray} {v v5 : Value} {dn dn5 : List ByteArray} (h : PutSt w0 p W s fr v dn) (hg : W.grownBy W5 v.ownBlock) (ho : OwnS (p + 3) W5 v5 dn5) : PutSt w0 p (W5.setCell ⟨p + 1, 0, none⟩ v5) s fr v5 dn5 := by
  have hk : ∀ q, q < p + 3 → q < W.heap.size → W5.heap[q]? = W.heap[q]? := fun q hq hl => hg.block q hl (fun e => by have := (World.ownsRow.lt h.own q e.symm).1; omega)
  refine ⟨(h.bs.kept (hk _ (by omega) h.bs.lt)).other (by show p ≠ p + 1; omega) _, (h.bo.kept (hk _ (by omega) h.bo.lt)).set 0 _, ?_, (h.bf.kept (hk _ (by omega) h.bf.lt)).other (by show p + 2 ≠ p + 1; omega) _, ?_, h.low⟩
  · refine ⟨ho.1, ?_⟩
    rcases ho.2 with h2 | ⟨g, cap, cur, rfl, hb, hh, r⟩
    · exact .inl h2
    · exact .inr ⟨g, cap, cur, rfl, hb, by rw [Below.heap_setCell _ _ _ _ (by show g ≠ p + 1; omega)]; exact hh, r⟩
  · have h1 : Chg [] w0 W5 := h.chg.grown hg (fun q hq hlt => by have := (World.ownsRow.lt h.own q hq).1; have := h.low; omega)
    exact h1.setCell (by intro hlt; have := h.low; dsimp only at hlt; omega) _
theorem PutSt.atOut {w0 W W5 : World} {p fr : Nat} {s : ByteArray} {v : Value} {dn : List ByteArray} (h : PutSt w0 p W s fr v dn) (hg : W.grownBy W5 v.ownBlock) : Blk W5 (p + 1) [v] 29 :=
  h.bo.kept (hg.block (p + 1) h.bo.lt (fun e => by have := (World.ownsRow.lt h.own _ e.symm).1; omega))
theorem PutSt.atFrom {w0 W W5 : World} {p fr : Nat} {s : ByteArray} {v : Value} {dn : List ByteArray} (h : PutSt w0 p W s fr v dn) (hg : W.grownBy W5 v.ownBlock) : Blk W5 (p + 2) [.int .i64 (fr : Int)] 3 :=
  h.bf.kept (hg.block (p + 2) h.bf.lt (fun e => by have := (World.ownsRow.lt h.own _ e.symm).1; omega))
theorem row_form {B e k n : Nat} {w : World} {v : Value} {xs : List Value} (h : w.ownsRow B e k v n xs) : ∃ A cap, v = .slice A n cap := by
  rcases h.2 with ⟨rfl, h0⟩ | ⟨g, cap, cur, rfl, _⟩
  · exact ⟨none, 0, by rw [h0]⟩
  · exact ⟨_, cap, rfl⟩
theorem PutSt.boxed {w0 W : World} {p fr : Nat} {s : ByteArray} {v : Value} {dn : List ByteArray} (h : PutSt w0 p W s fr v dn) (o : Obj) : PutSt w0 p (W.alloc o) s fr v dn := h.after ((Chg.refl [] W).alloc o)
set_option maxHeartbeats 8000000 in
set_option maxRecDepth 100000 in
theorem put_any (w0 : World) (p : Nat) (W : World) (s : ByteArray) (fr tt : Nat) (v : Value) (dn : List ByteArray) (hs : s.size ≤ 1048576) (hft : fr ≤ tt) (hto : tt ≤ s.size) (hdn : dn.length ≤ 1048576) (H : Hid (PutSt w0 p W s fr v dn)) :
    Calls Tryd.prog 52 #[.int .i64 (tt : Int), .pointer (some ⟨p, 0, none⟩), .pointer (some ⟨p + 2, 0, none⟩), .pointer (some ⟨p + 1, 0, none⟩)] W fun e w' => e = .returned (.tuple #[]) ∧
      ∃ v', Hid (PutSt w0 p w' s (tt + 1) v' (dn ++ emit ((s.data.toList.drop fr).take (tt - fr)))) := by
  obtain ⟨i0, hi, hz0, hz1, hz2⟩ := info_parts info9
  have HI := Lib.hid (And.intro hi (And.intro hz0 (And.intro hz1 hz2)))
  clear hi hz0 hz1 hz2
  have hz3 : (s.size : Int) ≤ 1048576 := by omega
  have hto2 : (tt : Int) ≤ (s.size : Int) := by omega
  have hsl := slice_run s fr tt W hft hto
  have c1 := H.out.bs.cell 0 _ rfl
  have c2 := H.out.bf.cell 0 _ rfl
  have HXL := Lib.hid (ext_list s fr tt)
  have hxs : (s.extract fr tt).size ≤ 1048576 := by rw [ext_len s fr tt hto]; omega
  generalize s.extract fr tt = x at hsl HXL hxs
  go_enter Tryd.func52, Tryd.ntmps52
  go_wp2_with fail
  refine (trim_any x _ hxs).mono ?_
  rintro e w1 ⟨rfl, H1⟩
  rw [HXL.out]
  have H2 := Lib.hid (H.out.after H1.out)
  clear H1 H c1 c2 hsl HXL hxs
  by_cases hx : Lib.trimS ((s.data.toList.drop fr).take (tt - fr)) bl2 = []
  · have HE := Lib.hid (show emit ((s.data.toList.drop fr).take (tt - fr)) = [] by unfold emit; rw [if_pos hx])
    have f2 := H2.out.bf.free 0
    have f3 := H2.out.bf.cell 0 _ rfl
    have H3 := Lib.hid (H2.out.from' (tt + 1))
    rw [show ((tt + 1 : Nat) : Int) = (tt : Int) + 1 by omega] at H3
    rw [hx]
    clear hx
    go_wp2
    go_end0
    exact ⟨rfl, v, by rw [HE.out, List.append_nil]; exact H3⟩
  · have HE := Lib.hid (show emit ((s.data.toList.drop fr).take (tt - fr)) = [⟨(Lib.trimS ((s.data.toList.drop fr).take (tt - fr)) bl2).toArray⟩] by unfold emit; rw [if_neg hx])
    have hb : (Lib.trimS ((s.data.toList.drop fr).take (tt - fr)) bl2).isEmpty = false := by cases h : Lib.trimS ((s.data.toList.drop fr).take (tt - fr)) bl2 with | nil => exact absurd h hx | cons _ _ => rfl
    clear hx
    generalize Lib.trimS ((s.data.toList.drop fr).take (tt - fr)) bl2 = y at hb HE ⊢
    obtain ⟨A, cp, rfl⟩ := H2.out.own.form
    have c3 := H2.out.bo.cell 0 _ rfl
    have H3 := Lib.hid (H2.out.boxed (.cells #[.string ⟨y.toArray⟩] 9))
    have hlb := H2.out.bf.lt
    have hlo := H2.out.bo.lt
    go_wp2_with (at_builtin; refine wpList_append_own _ rfl _ _ 29 rfl (p + 3) 9 i0 (.string ⟨#[]⟩) 1 16 Tryd.underlying29 HI.out.1 HI.out.2.1 HI.out.2.2.1 HI.out.2.2.2 rfl (by decide) (.slice A dn.length cp) dn.length (dn.map Value.string) rfl H3.out.own ⟨w1.heap.size, 0, none⟩ 1 1 [.string ⟨y.toArray⟩] rfl rfl (cell_one_new _ _ _) (by simp [Value.oneCell']) (by unfold maxLen; omega) (by omega) (by simp; omega) ?_; intro v5 w5 hown hgrow _; obtain ⟨A5, cp5, rfl⟩ := row_form hown; have H5 := Lib.hid (H3.out.pushed hgrow (OwnS.push hown)); have hb1 := H3.out.atOut hgrow; have f6 := hb1.free 0; have f8 := hb1.cell 0 _ rfl; have hb2 := H3.out.atFrom hgrow; have f4 := hb2.free 0; have f7 := hb2.cell 0 _ rfl; have H6 := Lib.hid (H5.out.from' (tt + 1)); rw [show ((tt + 1 : Nat) : Int) = (tt : Int) + 1 by omega] at H6; clear hb1 hb2; clear hown hgrow)
    go_end0
    exact ⟨rfl, _, by rw [HE.out]; exact H6⟩
end Go.Proofs.YtiimofejcakgoaaDoor
