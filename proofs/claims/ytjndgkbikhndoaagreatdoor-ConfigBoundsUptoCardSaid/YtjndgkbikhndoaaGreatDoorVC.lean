/- Layer 13 (config): speaks. -/
import Derived.Test.YtjndgkbikhndoaaGreatDoorVB
namespace Go.Proofs.YtjndgkbikhndoaaGreatDoor
open Go.RowKit Go.ChangeShapes Go.WideShapes
set_option linter.unusedVariables false

/-- A whole row is loaded by an operation whose guard says yes. -/
theorem wpList_load_want {w : World} {ops : Array Oper} {rest : List Oper} {o : Oper} {a : Go.Act} {Q : Exit → Go.Act → World → Prop} (hw : Region.wanted o (yielded ops a.tmps) = true) (T : TypeId) (x : Operand) (ho : o.op = .load T x) (p : Addr) (v : Value)
    (hx : a.eval x = .pointer (some p)) (hr : (loadVar T p).run Tryz.prog w = .ok v w) (h : wpList Tryz.prog ops Q rest (a.put o.dst v) w) : wpList Tryz.prog ops Q (o :: rest) a w := by
  refine wpList_step fun K hK => ?_
  rw [if_pos hw]
  unfold Oper.wp execOp
  simp only [ho, hx, Instr.loadAt, Instr.sureAddr, Sem.run_bind, Sem.run_pure, Result.andThen_ok, hr]
  exact hK _ _ h
set_option maxHeartbeats 8000000 in
set_option maxRecDepth 100000 in
theorem cspeaks_any (w : World) (hE : Hid (Env w)) :
    Calls Tryz.prog 18 #[] w fun e w' => e = .returned (.bool true) ∧ Hid (Chg [] w w') := by
  go_enter Tryz.func18, Tryz.ntmps18
  go_wp2_with fail
  refine (little_any _).mono ?_
  rintro e W1 ⟨⟨p3, p4, p1, rfl, HB1, HB3, HB4, g4, n43, n41⟩, H1⟩
  have HST := Lib.hid (run_storeVar_new (P := Tryz.prog) W1 36 zeroCf.toArray (cfRow (litC 1) (.slice (some ⟨p3, 0, none⟩) 1 1) (.slice (some ⟨p4, 0, none⟩) 1 1)).toArray (by kernel_rfl) rfl (by simp [Value.oneCell', cfRow, litC]))
  have HG := Lib.hid (And.intro g4 (And.intro n43 n41))
  clear g4 n43 n41
  go_upto_region 2 with (refine wpList_store_row rfl 36 _ _ rfl ⟨W1.heap.size, 0, none⟩ _ _ rfl rfl HST.out ?_)
  have HC2 := Lib.hid (H1.out.alloc (.cells (cfRow (litC 1) (.slice (some ⟨p3, 0, none⟩) 1 1) (.slice (some ⟨p4, 0, none⟩) 1 1)).toArray 36))
  have HX1 := Lib.hid (HB1.out.alloc (.cells (cfRow (litC 1) (.slice (some ⟨p3, 0, none⟩) 1 1) (.slice (some ⟨p4, 0, none⟩) 1 1)).toArray 36))
  have HX3 := Lib.hid (HB3.out.alloc (.cells (cfRow (litC 1) (.slice (some ⟨p3, 0, none⟩) 1 1) (.slice (some ⟨p4, 0, none⟩) 1 1)).toArray 36))
  have HX4 := Lib.hid (HB4.out.alloc (.cells (cfRow (litC 1) (.slice (some ⟨p3, 0, none⟩) 1 1) (.slice (some ⟨p4, 0, none⟩) 1 1)).toArray 36))
  have HXb := Lib.hid (Blk.new W1 (cfRow (litC 1) (.slice (some ⟨p3, 0, none⟩) 1 1) (.slice (some ⟨p4, 0, none⟩) 1 1)) 36)
  have HN := Lib.hid HB4.out.lt
  generalize W1.alloc (.cells (cfRow (litC 1) (.slice (some ⟨p3, 0, none⟩) 1 1) (.slice (some ⟨p4, 0, none⟩) 1 1)).toArray 36) = W2 at *
  generalize W1.heap.size = b at *
  clear HST HB1 HB3 HB4 H1
  have HLD := Lib.hid (fun (W : World) (hb : Blk W b (cfRow (litC 1) (.slice (some ⟨p3, 0, none⟩) 1 1) (.slice (some ⟨p4, 0, none⟩) 1 1)) 36) => load_row (w := W) 36 _ (cfRow (litC 1) (.slice (some ⟨p3, 0, none⟩) 1 1) (.slice (some ⟨p4, 0, none⟩) 1 1)) Tryz.underlying36 rfl (by kernel_rfl) (fun j x hj => by rw [Nat.zero_add]; exact hb.cell j x hj))
  have HL2 := Lib.hid (HLD.out _ HXb.out)
  go_wp2_with (first | refine wpList_load_row rfl 36 _ rfl ⟨b, 0, none⟩ _ rfl HL2.out ?_ | refine wpList_load_want (by rfl) 36 _ rfl ⟨b, 0, none⟩ _ rfl HL2.out ?_)
  refine (conns_any (litC 1) _ _ _ _ (Lib.hid (hE.out.chg HC2.out)) (Lib.hid (lit_at HX1.out HX3.out HX4.out)) (Lib.hid (lit_sz 1)) true lit_right).mono ?_
  rintro e W3 ⟨rfl, H3⟩
  rw [lit_conns, show okN true 3 = 3 from rfl, show ok3 true = 0 from rfl]
  have HC3 := Lib.hid (HC2.out.trans H3.out (by simp))
  have HY1 := Lib.hid (HX1.out.chg H3.out (by simp))
  have HY3 := Lib.hid (HX3.out.chg H3.out (by simp))
  have HY4 := Lib.hid (HX4.out.chg H3.out (by simp))
  have HYb := Lib.hid (HXb.out.chg H3.out (by simp))
  have HL3 := Lib.hid (HLD.out _ HYb.out)
  clear HX1 HX3 HX4 HXb HL2
  go_wp2_with (first | refine wpList_load_row rfl 36 _ rfl ⟨b, 0, none⟩ _ rfl HL3.out ?_ | refine wpList_load_want (by rfl) 36 _ rfl ⟨b, 0, none⟩ _ rfl HL3.out ?_)
  refine (check_any (litC 1) _ _ _ _ (Lib.hid (hE.out.chg HC3.out)) (Lib.hid (lit_at HY1.out HY3.out HY4.out)) (Lib.hid (lit_sz 1)) true lit_right).mono ?_
  rintro e W4 ⟨rfl, H4⟩
  rw [show ok3 true = 0 from rfl]
  have HC4 := Lib.hid (HC3.out.trans H4.out (by simp))
  have HZ1 := Lib.hid (HY1.out.chg H4.out (by simp))
  have HZ3 := Lib.hid (HY3.out.chg H4.out (by simp))
  have HZ4 := Lib.hid (HY4.out.chg H4.out (by simp))
  have HZb := Lib.hid (HYb.out.chg H4.out (by simp))
  have c1 := HZb.out.cell 1 _ rfl
  have d7 := HZ4.out.cell 7 _ rfl
  have f7 := HZ4.out.free 7
  clear HY1 HY3 HY4 HYb HL3
  go_upto_region 5 with fail
  obtain ⟨g4, n43, n41⟩ := HG.out
  have hn := HN.out
  have HS4 : Hid (Blk (W4.setCell ⟨p4, 7, none⟩ (.int .i64 0)) p4 (rtRow (litR 0) (.slice none 0 0) (.slice (some ⟨p1, 0, none⟩) 1 1)) 42) := Lib.hid (HZ4.out.set 7 (.int .i64 0))
  have HS1 := Lib.hid (HZ1.out.other (a := ⟨p4, 7, none⟩) (by show p1 ≠ p4; exact fun e => n41 e.symm) (.int .i64 0))
  have HS3 := Lib.hid (HZ3.out.other (a := ⟨p4, 7, none⟩) (by show p3 ≠ p4; exact fun e => n43 e.symm) (.int .i64 0))
  have HSb := Lib.hid (HZb.out.other (a := ⟨p4, 7, none⟩) (by show b ≠ p4; omega) (.int .i64 0))
  have HC5 := Lib.hid (HC4.out.setCell (p := ⟨p4, 7, none⟩) (by intro q; have : p4 < w.heap.size := q; omega) (.int .i64 0))
  clear c1 d7 f7 HZ1 HZ3 HZ4 HZb g4 n43 n41 hn
  generalize W4.setCell ⟨p4, 7, none⟩ (.int .i64 0) = W5 at *
  have HL5 := Lib.hid (HLD.out _ HSb.out)
  go_wp2_with (first | refine wpList_load_row rfl 36 _ rfl ⟨b, 0, none⟩ _ rfl HL5.out ?_ | refine wpList_load_want (by rfl) 36 _ rfl ⟨b, 0, none⟩ _ rfl HL5.out ?_)
  refine (check_any (litC 0) _ _ _ _ (Lib.hid (hE.out.chg HC5.out)) (Lib.hid (lit_at HS1.out HS3.out HS4.out)) (Lib.hid (lit_sz 0)) false lit_wrong).mono ?_
  rintro e W6 ⟨rfl, H6⟩
  rw [show ok3 false = 3 from rfl]
  go_wp2_with fail
  go_ret
  exact ⟨rfl, HC5.out.trans H6.out (by simp)⟩
end Go.Proofs.YtjndgkbikhndoaaGreatDoor
