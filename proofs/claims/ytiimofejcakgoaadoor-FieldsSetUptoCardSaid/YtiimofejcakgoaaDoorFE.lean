/- Layer 7 (fields): the program's Set. -/
import Derived.Test.YtiimofejcakgoaaDoorFD
import Derived.Deep.RegionHeld3
namespace Go.Proofs.YtiimofejcakgoaaDoor
open Go.RowKit Go.ChangeShapes Go.WideShapes Go.Maps Go.WideMaps
set_option linter.unusedVariables false

theorem OwnF.join {B : Nat} {w : World} {v : Value} {a b : List Fd} (h : w.ownsRow B 36 2 v (a.length + b.length) (fcells a ++ fcells b)) : OwnF B w v (a ++ b) := by
  unfold OwnF fcells
  rw [List.flatMap_append, List.length_append]
  exact h
theorem lensF_drop : ∀ (fs : List Fd) (q : Nat), lensF (fs.drop q) ≤ lensF fs
  | [], q => by simp
  | f :: fs, 0 => by simp
  | f :: fs, q + 1 => by
    have := lensF_drop fs q
    unfold lensF at this ⊢
    rw [List.drop_succ_cons, List.map_cons, List.sum_cons]
    omega
theorem BdF.drop {fs : List Fd} (h : BdF fs) (q : Nat) : BdF (fs.drop q) :=
  ⟨by rw [List.length_drop]; have := h.1; omega, Nat.le_trans (lensF_drop fs q) h.2.1, fun f hf => h.2.2 f (List.mem_of_mem_drop hf)⟩
set_option maxHeartbeats 16000000 in
set_option maxRecDepth 100000 in
theorem set_any (v : Value) (fs : List Fd) (name value : ByteArray) (w : World) (hf : Hid (Flds w v fs)) (h0 : Hid (Nil0 v)) (hb : Hid (BdF fs)) (hn : name.size ≤ 1048576) (hv : value.size ≤ 1048576) :
    Calls Tryd.prog 24 #[v, .string name, .string value] w fun e w' => ∃ r, e = .returned (.tuple #[r, .int .i64 (fieldE name value)]) ∧ Hid (Flds w' r (setF fs name value)) ∧ Hid (Chg [] w w') := by
  have HBX := Lib.hid (Blk.new w [.string name] 9)
  have HCX := Lib.hid ((Chg.refl [] w).alloc (.cells #[.string name] 9))
  have HPX := Lib.hid (show w.heap.size ≤ w.heap.size from Nat.le_refl _)
  have hlen : fs.length ≤ 2000000 := hb.out.1
  obtain ⟨a, cap, rfl, hcap, hr⟩ := hf.out
  clear hr
  have HNZ : Hid (fieldE name value = 0 → setF fs name value = setB fs name value) := Lib.hid (fun h => by unfold setF; rw [if_pos h])
  have HNN : Hid (fieldE name value ≠ 0 → setF fs name value = []) := Lib.hid (fun h => by unfold setF; rw [if_neg h])
  go_enter Tryd.func24, Tryd.ntmps24
  go_wp2_with fail
  refine (field_any name value _ hn hv).mono ?_
  rintro e w1 ⟨rfl, H1⟩
  have HB1 := Lib.hid (HBX.out.chg H1.out (by simp))
  have HC1 := Lib.hid (HCX.out.trans H1.out (by simp))
  have hfc := fieldE_cases name value
  clear HBX HCX H1
  by_cases hz : fieldE name value = 0
  · rw [hz]
    have HSF := Lib.hid (HNZ.out hz)
    have HZ := Lib.hid hz
    clear hz hfc HNZ HNN
    go_wp2_with fail
    have HF1 := Lib.hid (hf.out.chg HC1.out)
    refine (index_any _ fs name w.heap.size w1 HF1 hb hn HB1).mono ?_
    rintro e w2 ⟨⟨i, rfl, hi⟩, H2⟩
    have HB2 := Lib.hid (HB1.out.chg H2.out (by simp))
    have HC2 := Lib.hid (HC1.out.trans H2.out (by simp))
    have HF2 := Lib.hid (hf.out.chg HC2.out)
    have HSB : Hid (setB fs name value = fs.take (firstI fs name) ++ [(name, value)] ++ dropB (fs.drop (firstI fs name)) name) := Lib.hid (by unfold setB; rw [take_first, drop_first])
    generalize firstI fs name = q at hi HSB
    rcases hi with ⟨rfl, hq⟩ | ⟨rfl, rfl⟩
    · have hq2 : ¬ (q : Int) < 0 := by omega
      have HBD := Lib.hid (hb.out.drop q)
      have HLL : Hid ((fs.take q ++ [(name, value)]).length + (dropB (fs.drop q) name).length ≤ 100000000) := Lib.hid (by
        have h1 : (dropB (fs.drop q) name).length ≤ (fs.drop q).length := List.length_filter_le _ _
        rw [List.length_drop] at h1
        rw [List.length_append, List.length_take, List.length_cons, List.length_nil]
        omega)
      obtain ⟨u1, hs1, HU1, HN1⟩ := slice_to w2 _ fs q HF2.out h0.out (by omega)
      obtain ⟨u2, hs2, HU2, HN2⟩ := slice_from w2 _ fs q HF2.out h0.out (by omega)
      have HU1h := Lib.hid HU1
      have HU2h := Lib.hid HU2
      have HN1h := Lib.hid HN1
      have HN2h := Lib.hid HN2
      have hlt1 : (fs.take q).length ≤ 4000000 := by rw [List.length_take]; omega
      have cb := HB2.out.cell 0 _ rfl
      have hpb := HB2.out.lt
      have HSZ2 := Lib.hid HC2.out.size
      clear HU1 HU2 HN1 HN2
      go_wp2_with fail
      go_region_held3 (fun w' => w'.cell? ⟨w.heap.size, 0, none⟩ = some (.string name))
        (first | go_keep | assumption | (exact cb5) | (exact cb6))
        (first
          | (go_at_call 43; (with_reducible refine (clone_any u1 (fs.take q) w2.drew (Lib.hid (HU1h.out.chg (Chg.refl [] w2).drew)) HN1h hlt1).mono ?_); rintro e w5 ⟨r, rfl, HR5, HC5⟩; have HC25 := Lib.hid ((Chg.refl [] w2).drew.trans HC5.out (by simp)); have HRL : Hid (OwnF w2.heap.size w5 r (fs.take q)) := HR5; have cb5 := (HB2.out.chg HC25.out (by simp)).cell 0 _ rfl)
          | (go_at_call 43; (with_reducible refine (clone_any u1 (fs.take q) ((w2.alloc (.cells #[.string name, .string value] 36)).drew) (Lib.hid (HU1h.out.chg ((Chg.refl [] w2).alloc _).drew)) HN1h hlt1).mono ?_); rintro e w5 ⟨r, rfl, HR5, HC5⟩; have HC25 := Lib.hid ((((Chg.refl [] w2).alloc (.cells #[.string name, .string value] 36)).drew).trans HC5.out (by simp)); have HRL := Lib.hid (HR5.out.lower (show w2.heap.size ≤ ((w2.alloc (.cells #[.string name, .string value] 36)).drew).heap.size from (((Chg.refl [] w2).alloc (.cells #[.string name, .string value] 36)).drew).size)); have HLB := Lib.hid ((show Blk ((w2.alloc (.cells #[.string name, .string value] 36)).drew) w2.heap.size [.string name, .string value] 36 from Blk.new w2 [.string name, .string value] 36).chg HC5.out (by simp)); have cb5 := (HB2.out.chg HC25.out (by simp)).cell 0 _ rfl)
          | (revert HLB; intro HLB; obtain ⟨v6, w6, hr6, ho6, hg6⟩ := run_push 22 w2.heap.size w5 r (fs.take q) name value w2.heap.size 1 HRL.out HLB.out hlt1 HC25.out.size; (refine step_appF (by rfl) _ _ (by rfl) _ _ (by rfl) (by rfl) v6 w6 hr6 ?_); have HO6 := Lib.hid ho6; have HC6 := Lib.hid (Chg.grownOwn HC25.out HRL.out (Nat.le_refl _) hg6); clear ho6 hg6; have cb6 := (HB2.out.chg HC6.out (by simp)).cell 0 _ rfl)
          | (revert HRL; intro HRL; obtain ⟨v6, w6, hr6, ho6, hg6⟩ := run_push 22 w2.heap.size (w5.alloc (.cells #[.string name, .string value] 36)) r (fs.take q) name value w5.heap.size 1 (ownsRow_chg HRL.out ((Chg.refl [] w5).alloc _)) (Blk.new _ _ _) hlt1 (HC25.out.alloc (.cells #[.string name, .string value] 36)).size; (refine step_appF (by rfl) _ _ (by rfl) _ _ (by rfl) (by rfl) v6 w6 hr6 ?_); have HO6 := Lib.hid ho6; have HC6 := Lib.hid (Chg.grownOwn (HC25.out.alloc (.cells #[.string name, .string value] 36)) (ownsRow_chg HRL.out ((Chg.refl [] w5).alloc (.cells #[.string name, .string value] 36))) (Nat.le_refl _) hg6); clear ho6 hg6; have cb6 := (HB2.out.chg HC6.out (by simp)).cell 0 _ rfl)
          | fail)
      all_goals clear cb6 cb5 HRL HR5 HC5 HC25 hr6
      all_goals have hq7 := HU2h.out.chg HC6.out
      all_goals have cb := (HB2.out.chg HC6.out (by simp)).cell 0 _ rfl
      all_goals have HU7 := Lib.hid hq7
      all_goals clear hq7
      all_goals go_wp2_with fail
      all_goals go_region_held3 (fun w' => w'.cell? ⟨w.heap.size, 0, none⟩ = some (.string name))
        (first | go_keep | assumption | (exact cb8) | (exact cb9))
        (first
          | (go_at_call 28; (with_reducible refine (drop_any u2 (fs.drop q) name w6.drew (Lib.hid (HU7.out.chg (Chg.refl [] w6).drew)) HBD hn).mono ?_); rintro e w8 ⟨r8, rfl, HR8, HC8⟩; have HC86 := Lib.hid ((Chg.refl [] w6).drew.trans HC8.out (by simp)); have HC82 := Lib.hid (HC6.out.trans HC86.out (by simp)); have HO8 := Lib.hid (HO6.out.chg HC86.out); have HF8 := Lib.hid HR8.out.flds; have HN8 := Lib.hid HR8.out.nil0; have cb8 := (HB2.out.chg HC82.out (by simp)).cell 0 _ rfl)
          | (revert HF8; intro HF8; obtain ⟨v9, w9, hr9, ho9, hg9⟩ := run_appF 22 w2.heap.size w8 v6 r8 _ _ _ HO8.out HF8.out HN8.out HLL.out HC82.out.size; (refine step_appF (by rfl) _ _ (by rfl) _ _ (by rfl) (by rfl) v9 w9 hr9 ?_); have HO9 := Lib.hid (OwnF.join ho9); have HC9 := Lib.hid (Chg.grownOwn HC82.out HO8.out (Nat.le_refl _) hg9); clear ho9 hg9; have cb9 := (HB2.out.chg HC9.out (by simp)).cell 0 _ rfl)
          | fail)
      all_goals go_wp2
      all_goals go_ret2
      all_goals exact ⟨_, by rw [HZ.out]; rfl, Lib.hid (by rw [HSF.out, HSB.out]; exact HO9.out.flds), HC2.out.trans HC9.out (by simp)⟩
    · skip
      have HBD := Lib.hid (hb.out.drop fs.length)
      have HLL : Hid ((fs.take fs.length ++ [(name, value)]).length + (dropB (fs.drop fs.length) name).length ≤ 100000000) := Lib.hid (by
        have h1 : (dropB (fs.drop fs.length) name).length ≤ (fs.drop fs.length).length := List.length_filter_le _ _
        rw [List.length_drop] at h1
        rw [List.length_append, List.length_take, List.length_cons, List.length_nil]
        omega)
      obtain ⟨u1, hs1, HU1, HN1⟩ := slice_to w2 _ fs fs.length HF2.out h0.out (by omega)
      obtain ⟨u2, hs2, HU2, HN2⟩ := slice_from w2 _ fs fs.length HF2.out h0.out (by omega)
      have HU1h := Lib.hid HU1
      have HU2h := Lib.hid HU2
      have HN1h := Lib.hid HN1
      have HN2h := Lib.hid HN2
      have hlt1 : (fs.take fs.length).length ≤ 4000000 := by rw [List.length_take]; omega
      have cb := HB2.out.cell 0 _ rfl
      have hpb := HB2.out.lt
      have HSZ2 := Lib.hid HC2.out.size
      clear HU1 HU2 HN1 HN2
      go_wp2_with fail
      go_region_held3 (fun w' => w'.cell? ⟨w.heap.size, 0, none⟩ = some (.string name))
        (first | go_keep | assumption | (exact cb5) | (exact cb6))
        (first
          | (go_at_call 43; (with_reducible refine (clone_any u1 (fs.take fs.length) w2.drew (Lib.hid (HU1h.out.chg (Chg.refl [] w2).drew)) HN1h hlt1).mono ?_); rintro e w5 ⟨r, rfl, HR5, HC5⟩; have HC25 := Lib.hid ((Chg.refl [] w2).drew.trans HC5.out (by simp)); have HRL : Hid (OwnF w2.heap.size w5 r (fs.take fs.length)) := HR5; have cb5 := (HB2.out.chg HC25.out (by simp)).cell 0 _ rfl)
          | (go_at_call 43; (with_reducible refine (clone_any u1 (fs.take fs.length) ((w2.alloc (.cells #[.string name, .string value] 36)).drew) (Lib.hid (HU1h.out.chg ((Chg.refl [] w2).alloc _).drew)) HN1h hlt1).mono ?_); rintro e w5 ⟨r, rfl, HR5, HC5⟩; have HC25 := Lib.hid ((((Chg.refl [] w2).alloc (.cells #[.string name, .string value] 36)).drew).trans HC5.out (by simp)); have HRL := Lib.hid (HR5.out.lower (show w2.heap.size ≤ ((w2.alloc (.cells #[.string name, .string value] 36)).drew).heap.size from (((Chg.refl [] w2).alloc (.cells #[.string name, .string value] 36)).drew).size)); have HLB := Lib.hid ((show Blk ((w2.alloc (.cells #[.string name, .string value] 36)).drew) w2.heap.size [.string name, .string value] 36 from Blk.new w2 [.string name, .string value] 36).chg HC5.out (by simp)); have cb5 := (HB2.out.chg HC25.out (by simp)).cell 0 _ rfl)
          | (revert HLB; intro HLB; obtain ⟨v6, w6, hr6, ho6, hg6⟩ := run_push 22 w2.heap.size w5 r (fs.take fs.length) name value w2.heap.size 1 HRL.out HLB.out hlt1 HC25.out.size; (refine step_appF (by rfl) _ _ (by rfl) _ _ (by rfl) (by rfl) v6 w6 hr6 ?_); have HO6 := Lib.hid ho6; have HC6 := Lib.hid (Chg.grownOwn HC25.out HRL.out (Nat.le_refl _) hg6); clear ho6 hg6; have cb6 := (HB2.out.chg HC6.out (by simp)).cell 0 _ rfl)
          | (revert HRL; intro HRL; obtain ⟨v6, w6, hr6, ho6, hg6⟩ := run_push 22 w2.heap.size (w5.alloc (.cells #[.string name, .string value] 36)) r (fs.take fs.length) name value w5.heap.size 1 (ownsRow_chg HRL.out ((Chg.refl [] w5).alloc _)) (Blk.new _ _ _) hlt1 (HC25.out.alloc (.cells #[.string name, .string value] 36)).size; (refine step_appF (by rfl) _ _ (by rfl) _ _ (by rfl) (by rfl) v6 w6 hr6 ?_); have HO6 := Lib.hid ho6; have HC6 := Lib.hid (Chg.grownOwn (HC25.out.alloc (.cells #[.string name, .string value] 36)) (ownsRow_chg HRL.out ((Chg.refl [] w5).alloc (.cells #[.string name, .string value] 36))) (Nat.le_refl _) hg6); clear ho6 hg6; have cb6 := (HB2.out.chg HC6.out (by simp)).cell 0 _ rfl)
          | fail)
      all_goals clear cb6 cb5 HRL HR5 HC5 HC25 hr6
      all_goals have hq7 := HU2h.out.chg HC6.out
      all_goals have cb := (HB2.out.chg HC6.out (by simp)).cell 0 _ rfl
      all_goals have HU7 := Lib.hid hq7
      all_goals clear hq7
      all_goals go_wp2_with fail
      all_goals go_region_held3 (fun w' => w'.cell? ⟨w.heap.size, 0, none⟩ = some (.string name))
        (first | go_keep | assumption | (exact cb8) | (exact cb9))
        (first
          | (go_at_call 28; (with_reducible refine (drop_any u2 (fs.drop fs.length) name w6.drew (Lib.hid (HU7.out.chg (Chg.refl [] w6).drew)) HBD hn).mono ?_); rintro e w8 ⟨r8, rfl, HR8, HC8⟩; have HC86 := Lib.hid ((Chg.refl [] w6).drew.trans HC8.out (by simp)); have HC82 := Lib.hid (HC6.out.trans HC86.out (by simp)); have HO8 := Lib.hid (HO6.out.chg HC86.out); have HF8 := Lib.hid HR8.out.flds; have HN8 := Lib.hid HR8.out.nil0; have cb8 := (HB2.out.chg HC82.out (by simp)).cell 0 _ rfl)
          | (revert HF8; intro HF8; obtain ⟨v9, w9, hr9, ho9, hg9⟩ := run_appF 22 w2.heap.size w8 v6 r8 _ _ _ HO8.out HF8.out HN8.out HLL.out HC82.out.size; (refine step_appF (by rfl) _ _ (by rfl) _ _ (by rfl) (by rfl) v9 w9 hr9 ?_); have HO9 := Lib.hid (OwnF.join ho9); have HC9 := Lib.hid (Chg.grownOwn HC82.out HO8.out (Nat.le_refl _) hg9); clear ho9 hg9; have cb9 := (HB2.out.chg HC9.out (by simp)).cell 0 _ rfl)
          | fail)
      all_goals go_wp2
      all_goals go_ret2
      all_goals exact ⟨_, by rw [HZ.out]; rfl, Lib.hid (by rw [HSF.out, HSB.out]; exact HO9.out.flds), HC2.out.trans HC9.out (by simp)⟩
  · have HSF := Lib.hid (HNN.out hz)
    rcases hfc with h | h | h
    · exact absurd h hz
    · rw [h]
      clear hz HNZ HNN
      go_wp2_with fail
      go_ret2
      exact ⟨_, by rw [h]; rfl, Lib.hid (by rw [HSF.out]; exact (OwnF.nil 0 _).flds), HC1⟩
    · rw [h]
      clear hz HNZ HNN
      go_wp2_with fail
      go_ret2
      exact ⟨_, by rw [h]; rfl, Lib.hid (by rw [HSF.out]; exact (OwnF.nil 0 _).flds), HC1⟩
end Go.Proofs.YtiimofejcakgoaaDoor
