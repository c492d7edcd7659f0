/- The walks of FieldsChange and FieldsSet. -/
import Derived.Test.YtiimofejcakgoaaDoorFG
namespace Go.Proofs.YtiimofejcakgoaaDoor
open Go.RowKit Go.ChangeShapes Go.WideShapes Go.Maps Go.WideMaps
set_option linter.unusedVariables false

theorem tw_len (fs : List Fd) (name : ByteArray) : (fs.takeWhile (dropF name)).length + (fs.dropWhile (dropF name)).length = fs.length := by
  rw [← List.length_append, List.takeWhile_append_dropWhile]
theorem setB_len (fs : List Fd) (name value : ByteArray) : (setB fs name value).length ≤ fs.length + 1 := by
  unfold setB
  have h1 := tw_len fs name
  have h2 : (dropB (fs.dropWhile (dropF name)) name).length ≤ (fs.dropWhile (dropF name)).length := List.length_filter_le _ _
  rw [List.length_append, List.length_append, List.length_cons, List.length_nil]
  omega
theorem setF_len (fs : List Fd) (name value : ByteArray) : (setF fs name value).length ≤ fs.length + 1 := by
  unfold setF
  split
  · exact setB_len _ _ _
  · simp
theorem viaB_len (fs : List Fd) (m : Int) (by' : ByteArray) : (viaB fs m by').length ≤ fs.length + 1 := by
  unfold viaB
  split <;> simp
theorem beq_int (b : Int) : (b == b) = true := beq_self_eq_true _
set_option maxHeartbeats 16000000 in
set_option maxRecDepth 100000 in
theorem change_any (v : Value) (fs : List Fd) (name value : ByteArray) (w : World) (hf : Hid (Flds w v fs)) (h0 : Hid (Nil0 v)) (hb : Hid (BdF fs)) (hn : name.size ≤ 1048576) (hv : value.size ≤ 1048576) :
    Calls Tryd.prog 6 #[v, .string name, .string value] w fun e w' => e = .returned (.bool true) ∧ Hid (Chg [] w w') := by
  have hlen : fs.length ≤ 2000000 := hb.out.1
  have l1 := setF_len fs name value
  have l2 := viaB_len fs ((value.size : Int) - 1) name
  have l3' : (dropB fs name).length ≤ fs.length := List.length_filter_le _ _
  go_enter Tryd.func6, Tryd.ntmps6
  go_wp2_with fail
  refine (set_any v fs name value w hf h0 hb hn hv).mono ?_
  rintro e w1 ⟨r1, rfl, HR1, C1⟩
  have HF1 := Lib.hid (hf.out.chg C1.out)
  go_wp2_with fail
  refine (rset_any v fs name value w1 HF1 hb hn hv).mono ?_
  rintro e w2 ⟨r2, rfl, HR2, H2⟩
  have C2 := Lib.hid (C1.out.trans H2.out (by simp))
  have HF2 := Lib.hid (hf.out.chg C2.out)
  have HR1b := Lib.hid (HR1.out.chg H2.out)
  have k1 := beq_int (fieldE name value)
  generalize fieldE name value = fe at k1 ⊢
  clear C1 HF1 HR1 H2
  go_wp2_with fail
  refine (via_any v fs _ name w2 HF2 h0 (by omega) hn).mono ?_
  rintro e w3 ⟨r3, rfl, HR3, H3⟩
  have C3 := Lib.hid (C2.out.trans H3.out (by simp))
  have HF3 := Lib.hid (hf.out.chg C3.out)
  go_wp2_with fail
  refine (rvia_any v fs _ name w3 HF3 h0 (by omega) hn).mono ?_
  rintro e w4 ⟨r4, rfl, HR4, H4⟩
  have C4 := Lib.hid (C3.out.trans H4.out (by simp))
  have HF4 := Lib.hid (hf.out.chg C4.out)
  have k2 := beq_int (viaE ((value.size : Int) - 1) name)
  generalize viaE ((value.size : Int) - 1) name = ve at k2 ⊢
  have HR1c := Lib.hid ((HR1b.out.chg H3.out).chg H4.out)
  have HR2c := Lib.hid ((HR2.out.chg H3.out).chg H4.out)
  have HR3c := Lib.hid (HR3.out.chg H4.out)
  clear C2 C3 HF2 HF3 HR1b HR2 HR3 H3 H4
  go_wp2_with fail
  refine (fields_eq r1 r2 _ w4 HR1c HR2c (by omega)).mono ?_
  rintro e w5 ⟨rfl, H5⟩
  have C5 := Lib.hid (C4.out.trans H5.out (by simp))
  have HF5 := Lib.hid (hf.out.chg C5.out)
  go_wp2_with fail
  refine (fields_eq r3 r4 _ w5 (Lib.hid (HR3c.out.chg H5.out).flds) (Lib.hid (HR4.out.chg H5.out).flds) (by omega)).mono ?_
  rintro e w6 ⟨rfl, H6⟩
  have C6 := Lib.hid (C5.out.trans H6.out (by simp))
  have HF6 := Lib.hid (hf.out.chg C6.out)
  clear C4 C5 HF4 HF5 HR1c HR2c HR3c HR4 H5 H6
  go_wp2_with fail
  refine (drop_any v fs name w6 HF6 hb hn).mono ?_
  rintro e w7 ⟨r7, rfl, HR7, H7⟩
  have C7 := Lib.hid (C6.out.trans H7.out (by simp))
  have HF7 := Lib.hid (hf.out.chg C7.out)
  go_wp2_with fail
  refine (rdrop_any v fs name w7 HF7 hb hn).mono ?_
  rintro e w8 ⟨r8, rfl, HR8, H8⟩
  have C8 := Lib.hid (C7.out.trans H8.out (by simp))
  go_wp2_with fail
  refine (fields_eq r7 r8 _ w8 (Lib.hid (HR7.out.chg H8.out).flds) (Lib.hid HR8.out.flds) (by omega)).mono ?_
  rintro e w9 ⟨rfl, H9⟩
  have C9 := Lib.hid (C8.out.trans H9.out (by simp))
  clear C6 C7 C8 HF6 HF7 HR7 HR8 H7 H8 H9
  go_wp2_with fail
  refine (speaks_any w9).mono ?_
  rintro e wd ⟨rfl, Hd⟩
  go_wp2_with fail
  go_ret
  exact ⟨rfl, C9.out.trans Hd.out (by simp)⟩
theorem same_self (a : ByteArray) : sameB a a = true := by
  rw [same_low]
  exact decide_eq_true rfl
theorem tw_all (fs : List Fd) (name : ByteArray) : ∀ f, f ∈ fs.takeWhile (dropF name) → dropF name f = true := by
  induction fs with
  | nil => intro f h; cases h
  | cons g fs ih =>
    intro f h
    rw [List.takeWhile_cons] at h
    split at h
    · rename_i hg
      rcases List.mem_cons.1 h with rfl | h
      · exact hg
      · exact ih f h
    · cases h
theorem set_all (fs : List Fd) (name value : ByteArray) : allB (setB fs name value) name = [value] := by
  have hd : ∀ f, dropF name f = true → sameB f.1 name = false := fun f h => by
    unfold dropF at h
    cases hs : sameB f.1 name
    · rfl
    · rw [hs] at h
      cases h
  have h1 : (fs.takeWhile (dropF name)).filter (fun f => sameB f.1 name) = [] := by
    rw [List.filter_eq_nil_iff]
    intro f hf
    rw [hd f (tw_all fs name f hf)]
    simp
  have h2 : (dropB (fs.dropWhile (dropF name)) name).filter (fun f => sameB f.1 name) = [] := by
    rw [List.filter_eq_nil_iff]
    intro f hf
    rw [hd f (List.mem_filter.1 hf).2]
    simp
  unfold allB setB
  rw [List.filter_append, List.filter_append, h1, h2, List.filter_cons]
  simp only [same_self, if_true, List.filter_nil, List.nil_append, List.append_nil, List.map_cons, List.map_nil]
theorem set_drop (fs : List Fd) (name value : ByteArray) : dropB (setB fs name value) name = dropB fs name := by
  have h1 : (fs.takeWhile (dropF name)).filter (dropF name) = fs.takeWhile (dropF name) := by
    rw [List.filter_eq_self]
    exact tw_all fs name
  have h2 : (dropB (fs.dropWhile (dropF name)) name).filter (dropF name) = dropB (fs.dropWhile (dropF name)) name := by
    unfold dropB
    rw [List.filter_filter]
    congr 1
    funext f
    cases dropF name f <;> rfl
  have h3 : dropF name (name, value) = false := by
    unfold dropF
    rw [same_self]
    rfl
  have h4 : dropB fs name = fs.takeWhile (dropF name) ++ dropB (fs.dropWhile (dropF name)) name := by
    unfold dropB
    conv => lhs; rw [← List.takeWhile_append_dropWhile (p := dropF name) (l := fs)]
    rw [List.filter_append, h1]
  rw [h4]
  unfold setB
  show List.filter (dropF name) _ = _
  rw [List.filter_append, List.filter_append, h1, h2, List.filter_cons, h3]
  simp
theorem lensF_app (a b : List Fd) : lensF (a ++ b) = lensF a + lensF b := by
  unfold lensF
  rw [List.map_append, List.sum_append]
theorem set_bd (fs : List Fd) (name value : ByteArray) (hb : fs.length ≤ 1048576 ∧ lensF fs + name.size + value.size ≤ 1048576 ∧ ∀ f, f ∈ fs → f.1.size ≤ 1048576 ∧ f.2.size ≤ 1048576) : BdF (setB fs name value) := by
  refine ⟨by have := setB_len fs name value; omega, ?_, fun f hf => ?_⟩
  · unfold setB
    rw [lensF_app, lensF_app]
    have h1 : lensF (dropB (fs.dropWhile (dropF name)) name) ≤ lensF (fs.dropWhile (dropF name)) := lensF_filter _ _
    have h2 : lensF (fs.takeWhile (dropF name)) + lensF (fs.dropWhile (dropF name)) = lensF fs := by rw [← lensF_app, List.takeWhile_append_dropWhile]
    have h3 : lensF [(name, value)] = name.size + value.size := by simp [lensF]
    omega
  · unfold setB at hf
    rcases List.mem_append.1 hf with hf | hf
    · rcases List.mem_append.1 hf with hf | hf
      · exact hb.2.2 f ((List.takeWhile_prefix _).subset hf)
      · rw [List.mem_singleton] at hf
        subst hf
        exact ⟨by dsimp only; omega, by dsimp only; omega⟩
    · exact hb.2.2 f ((List.dropWhile_suffix _).subset (List.mem_filter.1 hf).1)
theorem lit_txts {w : World} {b : Nat} {ts : List ByteArray} (h : Blk w b (ts.map Value.string) 9) (hl : ts.length ≤ 4000000) : OwnS b w (.slice (some ⟨b, 0, none⟩) ts.length ts.length) ts := by
  refine ⟨by simp, .inr ⟨b, ts.length, (ts.map Value.string).toArray, rfl, Nat.le_refl _, h, Nat.le_refl _, by unfold maxLen; omega, by simp, ?_⟩⟩
  show List.take (ts.length * 1) (ts.map Value.string).toArray.toList = _
  rw [List.take_of_length_le (by simp)]
set_option maxHeartbeats 16000000 in
set_option maxRecDepth 100000 in
theorem sets_any (v : Value) (fs : List Fd) (name value : ByteArray) (w : World) (hf : Hid (Flds w v fs)) (h0 : Hid (Nil0 v)) (hb : Hid (fs.length ≤ 1048576 ∧ lensF fs + name.size + value.size ≤ 1048576 ∧ ∀ f, f ∈ fs → f.1.size ≤ 1048576 ∧ f.2.size ≤ 1048576)) :
    Calls Tryd.prog 7 #[v, .string name, .string value] w fun e w' => e = .returned (.bool true) ∧ Hid (Chg [] w w') := by
  have hn : name.size ≤ 1048576 := by have := hb.out.2.1; omega
  have hv : value.size ≤ 1048576 := by have := hb.out.2.1; omega
  have HBD : Hid (BdF fs) := Lib.hid ⟨by have := hb.out.1; omega, by have := hb.out.2.1; omega, hb.out.2.2⟩
  have hlen : fs.length ≤ 1048576 := hb.out.1
  have l3' : (dropB fs name).length ≤ fs.length := List.length_filter_le _ _
  have hfc := fieldE_cases name value
  go_enter Tryd.func7, Tryd.ntmps7
  go_wp2_with fail
  refine (set_any v fs name value w hf h0 HBD hn hv).mono ?_
  rintro e w1 ⟨r1, rfl, HR1, C1⟩
  by_cases hz : fieldE name value = 0
  · have hsf : setF fs name value = setB fs name value := by unfold setF; rw [if_pos hz]
    rw [hsf] at HR1
    rw [hz]
    clear hz hfc hsf
    have HBS := Lib.hid (set_bd fs name value hb.out)
    have HSA := Lib.hid (set_all fs name value)
    have HSD := Lib.hid (set_drop fs name value)
    go_wp2_with fail
    refine (all_any r1 _ name w1 HR1 HBS hn).mono ?_
    rintro e w2 ⟨r2, rfl, HR2, H2⟩
    rw [HSA.out] at HR2
    have C2 := Lib.hid (C1.out.trans H2.out (by simp))
    have HL := Lib.hid (lit_txts (Blk.new w2 ([value].map Value.string) 9) (by simp))
    have CA := Lib.hid ((Chg.refl [] w2).alloc (.cells #[.string value] 9))
    have HR2b := Lib.hid (HR2.out.chg CA.out)
    go_wp2_with fail
    refine (texts_eq _ _ r2 _ [value] _ HR2b HL (by simp)).mono ?_
    rintro e w3 ⟨rfl, H3⟩
    have C23 := Lib.hid (CA.out.trans H3.out (by simp))
    have C3 := Lib.hid (C2.out.trans C23.out (by simp))
    have HR3 := Lib.hid ((HR1.out.chg H2.out).chg C23.out)
    have HF3 := Lib.hid (hf.out.chg C3.out)
    clear C1 H2 HR2 HL CA HR2b H3 C23 C2
    go_wp2_with fail
    refine (drop_any r1 _ name w3 HR3 HBS hn).mono ?_
    rintro e w4 ⟨r4, rfl, HR4, H4⟩
    rw [HSD.out] at HR4
    have C4 := Lib.hid (C3.out.trans H4.out (by simp))
    have HF4 := Lib.hid (hf.out.chg C4.out)
    go_wp2_with fail
    refine (drop_any v fs name w4 HF4 HBD hn).mono ?_
    rintro e w5 ⟨r5, rfl, HR5, H5⟩
    have C5 := Lib.hid (C4.out.trans H5.out (by simp))
    go_wp2_with fail
    refine (fields_eq r4 r5 _ w5 (Lib.hid (HR4.out.chg H5.out).flds) (Lib.hid HR5.out.flds) (by omega)).mono ?_
    rintro e w6 ⟨rfl, H6⟩
    have C6 := Lib.hid (C5.out.trans H6.out (by simp))
    go_wp2_with fail
    refine (speaks_any w6).mono ?_
    rintro e wd ⟨rfl, Hd⟩
    go_wp2_with fail
    go_ret
    exact ⟨rfl, C6.out.trans Hd.out (by simp)⟩
  · have hsf : setF fs name value = [] := by unfold setF; rw [if_neg hz]
    rw [hsf] at HR1
    obtain ⟨a1, c1, rfl, -⟩ := HR1.out
    rcases hfc with h | h | h
    · exact absurd h hz
    · rw [h]
      clear hz hsf h
      go_wp2_with fail
      refine (speaks_any w1).mono ?_
      rintro e wd ⟨rfl, Hd⟩
      go_wp2_with fail
      go_ret
      exact ⟨rfl, C1.out.trans Hd.out (by simp)⟩
    · rw [h]
      clear hz hsf h
      go_wp2_with fail
      refine (speaks_any w1).mono ?_
      rintro e wd ⟨rfl, Hd⟩
      go_wp2_with fail
      go_ret
      exact ⟨rfl, C1.out.trans Hd.out (by simp)⟩
end Go.Proofs.YtiimofejcakgoaaDoor
