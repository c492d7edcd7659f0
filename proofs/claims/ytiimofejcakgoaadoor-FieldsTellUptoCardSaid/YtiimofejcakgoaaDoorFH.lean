/- The walk of FieldsTell. -/
import Derived.Test.YtiimofejcakgoaaDoorFG
namespace Go.Proofs.YtiimofejcakgoaaDoor
open Go.RowKit Go.ChangeShapes Go.WideShapes Go.Maps Go.WideMaps
set_option linter.unusedVariables false

theorem beq_bool (b : Bool) : (b == b) = true := beq_self_eq_true _
set_option maxHeartbeats 16000000 in
set_option maxRecDepth 100000 in
theorem tell_any (v : Value) (fs : List Fd) (name item : ByteArray) (w : World) (hf : Hid (Flds w v fs)) (hb : Hid (BdF fs)) (hn : name.size ≤ 1048576) (hi : item.size ≤ 1048576) :
    Calls Tryd.prog 3 #[v, .string name, .string item] w fun e w' => e = .returned (.bool true) ∧ Hid (Chg [] w w') := by
  have hvl : (allB fs name).length ≤ 4000000 := by
    have h1 := allB_len fs name fs.length
    rw [List.take_length] at h1
    exact Nat.le_trans h1 (by have := hb.out.1; omega)
  have hil := items_len fs name hb.out
  go_enter Tryd.func3, Tryd.ntmps3
  go_wp2_with fail
  refine (get_any v fs name w hf hb hn).mono ?_
  rintro e w1 ⟨rfl, C1⟩
  have HF1 := Lib.hid (hf.out.chg C1.out)
  go_wp2_with fail
  refine (rget_any v fs name w1 HF1 hb hn).mono ?_
  rintro e w2 ⟨rfl, H2⟩
  have C2 := Lib.hid (C1.out.trans H2.out (by simp))
  have HF2 := Lib.hid (hf.out.chg C2.out)
  have k1 := beq_self_bytes (getB fs name)
  have k2 := beq_bool (gotB fs name)
  generalize getB fs name = gb at k1 ⊢
  generalize gotB fs name = go at k2 ⊢
  go_wp2_with fail
  refine (check_any v fs w2 HF2 hb).mono ?_
  rintro e w3 ⟨rfl, H3⟩
  have C3 := Lib.hid (C2.out.trans H3.out (by simp))
  have HF3 := Lib.hid (hf.out.chg C3.out)
  go_wp2_with fail
  refine (rcheck_any v fs w3 HF3 hb).mono ?_
  rintro e w4 ⟨rfl, H4⟩
  have C4 := Lib.hid (C3.out.trans H4.out (by simp))
  have HF4 := Lib.hid (hf.out.chg C4.out)
  have k3 : (checkB fs == checkB fs) = true := beq_self_eq_true _
  generalize checkB fs = cb at k3 ⊢
  clear C1 C2 C3 HF1 HF2 HF3 H2 H3 H4
  go_wp2_with fail
  refine (all_any v fs name w4 HF4 hb hn).mono ?_
  rintro e w5 ⟨r5, rfl, HR5, H5⟩
  have C5 := Lib.hid (C4.out.trans H5.out (by simp))
  have HF5 := Lib.hid (hf.out.chg C5.out)
  go_wp2_with fail
  refine (rall_any v fs name w5 HF5 hb hn).mono ?_
  rintro e w6 ⟨r6, rfl, HR6, H6⟩
  have C6 := Lib.hid (C5.out.trans H6.out (by simp))
  go_wp2_with fail
  refine (texts_eq _ _ r5 r6 _ w6 (Lib.hid (HR5.out.chg H6.out)) HR6 hvl).mono ?_
  rintro e w7 ⟨rfl, H7⟩
  have C7 := Lib.hid (C6.out.trans H7.out (by simp))
  have HF7 := Lib.hid (hf.out.chg C7.out)
  clear C4 C5 C6 HF4 HF5 H5 H6 H7 HR5 HR6
  go_wp2_with fail
  refine (items_any v fs name w7 HF7 hb hn).mono ?_
  rintro e w8 ⟨r8, rfl, HR8, H8⟩
  have C8 := Lib.hid (C7.out.trans H8.out (by simp))
  have HF8 := Lib.hid (hf.out.chg C8.out)
  go_wp2_with fail
  refine (ritems_any v fs name w8 HF8 hb hn).mono ?_
  rintro e w9 ⟨r9, rfl, HR9, H9⟩
  have C9 := Lib.hid (C8.out.trans H9.out (by simp))
  go_wp2_with fail
  refine (texts_eq _ _ r8 r9 _ w9 (Lib.hid (HR8.out.chg H9.out)) HR9 hil).mono ?_
  rintro e wa ⟨rfl, Ha⟩
  have Ca := Lib.hid (C9.out.trans Ha.out (by simp))
  have HFa := Lib.hid (hf.out.chg Ca.out)
  clear C7 C8 C9 HF7 HF8 H8 H9 Ha HR8 HR9
  go_wp2_with fail
  refine (has_any v fs name item wa HFa hb hn hi).mono ?_
  rintro e wb ⟨rfl, Hb⟩
  have Cb := Lib.hid (Ca.out.trans Hb.out (by simp))
  have HFb := Lib.hid (hf.out.chg Cb.out)
  go_wp2_with fail
  refine (rhas_any v fs name item wb HFb hb hn hi).mono ?_
  rintro e wc ⟨rfl, Hc⟩
  have Cc := Lib.hid (Cb.out.trans Hc.out (by simp))
  have k4 := beq_bool (hasB fs name item)
  generalize hasB fs name item = hbv at k4 ⊢
  go_wp2_with fail
  refine (speaks_any wc).mono ?_
  rintro e wd ⟨rfl, Hd⟩
  go_wp2_with fail
  go_ret
  exact ⟨rfl, Cc.out.trans Hd.out (by simp)⟩
end Go.Proofs.YtiimofejcakgoaaDoor
