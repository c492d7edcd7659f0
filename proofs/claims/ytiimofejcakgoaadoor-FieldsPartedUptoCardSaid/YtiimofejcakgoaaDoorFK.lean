/- The walk of FieldsParted. -/
import Derived.Test.YtiimofejcakgoaaDoorFJ
namespace Go.Proofs.YtiimofejcakgoaaDoor
open Go.RowKit Go.ChangeShapes Go.WideShapes Go.Maps Go.WideMaps
set_option linter.unusedVariables false

def xA : ByteArray := ⟨#[88, 45, 76, 105, 115, 116]⟩
def xB : ByteArray := ⟨#[120, 45, 108, 105, 115, 116]⟩
def xC : ByteArray := ⟨#[88, 45, 76, 73, 83, 84]⟩
theorem goL_parted (l b : List UInt8) : ∀ part : List UInt8, (∀ c, c ∈ l → c.toNat ≠ 34) → goL part false false (l ++ 44 :: b) = goL part false false l ++ goL [] false false b := by
  induction l with
  | nil =>
    intro part _
    show (if (44 : UInt8).toNat = 44 ∧ false = false then emit part ++ goL [] false false b else goL (part ++ [44]) (nq false false 44) (ns false false 44) b) = emit part ++ goL [] false false b
    rw [if_pos ⟨rfl, rfl⟩]
  | cons c l ih =>
    intro part h
    have hc : c.toNat ≠ 34 := h c List.mem_cons_self
    have hl : ∀ d, d ∈ l → d.toNat ≠ 34 := fun d hd => h d (List.mem_cons_of_mem _ hd)
    rw [List.cons_append]
    show (if c.toNat = 44 ∧ false = false then emit part ++ goL [] false false (l ++ 44 :: b) else goL (part ++ [c]) (nq false false c) (ns false false c) (l ++ 44 :: b)) = (if c.toNat = 44 ∧ false = false then emit part ++ goL [] false false l else goL (part ++ [c]) (nq false false c) (ns false false c) l) ++ _
    split
    · rw [ih [] hl, List.append_assoc]
    · have h1 : nq false false c = false := by
        unfold nq
        rw [if_neg (by decide), if_neg (fun k => by cases k.2), if_neg hc]
      have h2 : ns false false c = false := by
        unfold ns
        rw [if_neg (by decide), decide_eq_false (fun k => by cases k.2)]
      rw [h1, h2, ih _ hl]
theorem list_parted (a b : ByteArray) (h : ∀ (j : Nat) (c : UInt8), a.data.toList[j]? = some c → c.toNat ≠ 34) : listB (a ++ ⟨#[44]⟩ ++ b).data.toList = listB a.data.toList ++ listB b.data.toList := by
  rw [app_list, app_list, List.append_assoc]
  exact goL_parted _ _ [] (fun c hc => by
    obtain ⟨j, hj, e⟩ := List.getElem_of_mem hc
    exact h j c (by rw [List.getElem?_eq_getElem hj, e]))
theorem all_app (a b : List Fd) (name : ByteArray) : allB (a ++ b) name = allB a name ++ allB b name := by
  unfold allB
  rw [List.filter_append, List.map_append]
theorem items_parted (fs : List Fd) (a b : ByteArray) (h : ∀ (j : Nat) (c : UInt8), a.data.toList[j]? = some c → c.toNat ≠ 34) : itemsB (fs ++ [(xA, a), (xB, b)]) xB = itemsB (fs ++ [(xC, a ++ ⟨#[44]⟩ ++ b)]) xB := by
  have h1 : allB [(xA, a), (xB, b)] xB = [a, b] := by
    unfold allB
    rw [List.filter_cons, List.filter_cons]
    have e1 : sameB xA xB = true := by decide +kernel
    have e2 : sameB xB xB = true := by decide +kernel
    simp only [e1, e2, if_true, List.filter_nil, List.map_cons, List.map_nil]
  have h2 : allB [(xC, a ++ ⟨#[44]⟩ ++ b)] xB = [a ++ ⟨#[44]⟩ ++ b] := by
    unfold allB
    rw [List.filter_cons]
    have e1 : sameB xC xB = true := by decide +kernel
    simp only [e1, if_true, List.filter_nil, List.map_cons, List.map_nil]
  unfold itemsB
  rw [all_app, all_app, h1, h2]
  unfold itL
  rw [List.flatMap_append, List.flatMap_append]
  congr 1
  simp only [List.flatMap_cons, List.flatMap_nil, List.append_nil]
  rw [list_parted a b h, List.map_append]
theorem app_size (a b : ByteArray) : (a ++ b).size = a.size + b.size := by
  rw [← toList_len, app_list, List.length_append, toList_len, toList_len]
theorem bd_app (fs gs : List Fd) (hl : fs.length + gs.length ≤ 2000000) (hs : lensF fs + lensF gs ≤ 2000000) (h : ∀ f, f ∈ fs → f.1.size ≤ 1048576 ∧ f.2.size ≤ 1048576) (h2 : ∀ f, f ∈ gs → f.1.size ≤ 1048576 ∧ f.2.size ≤ 1048576) : BdF (fs ++ gs) :=
  ⟨by rw [List.length_append]; exact hl, by rw [lensF_app]; exact hs, fun f hf => by
    rcases List.mem_append.1 hf with hf | hf
    · exact h f hf
    · exact h2 f hf⟩
set_option maxHeartbeats 16000000 in
set_option maxRecDepth 100000 in
theorem parted_any (v : Value) (fs : List Fd) (a b : ByteArray) (w : World) (hf : Hid (Flds w v fs)) (h0 : Hid (Nil0 v)) (hb : Hid (fs.length ≤ 1048576 ∧ lensF fs + a.size + b.size + 2 ≤ 1048576 ∧ ∀ f, f ∈ fs → f.1.size ≤ 1048576 ∧ f.2.size ≤ 1048576)) :
    Calls Tryd.prog 5 #[v, .string a, .string b] w fun e w' => e = .returned (.bool true) ∧ Hid (Chg [] w w') := by
  have ha : a.size ≤ 1048576 := by have := hb.out.2.1; omega
  have hbs : b.size ≤ 1048576 := by have := hb.out.2.1; omega
  have hab : a.size + b.size + 1 ≤ 1048576 := by have := hb.out.2.1; omega
  have hlen : fs.length ≤ 1048576 := hb.out.1
  have haz : (a.size : Int) ≤ 1048576 := by omega
  go_enter Tryd.func5, Tryd.ntmps5
  go_wp2
  go_loopw [7] (fun i wr => ∃ k : Nat, i = .int .i64 k ∧ k ≤ a.size ∧ Hid (∀ (j : Nat) (c : UInt8), j < k → a.data.toList[j]? = some c → c.toNat ≠ 34) ∧ w = wr) (fun i _ => a.size - (intOf i).toNat)
  case atStart => exact ⟨0, rfl, by omega, Lib.hid (fun j c hj => by omega), by first | rfl | trivial⟩
  case round =>
    obtain ⟨k, rfl, hk, HN, rfl⟩ := hrel
    by_cases hlt : k < a.size
    · have hlt2 : (k : Int) < (a.size : Int) := by omega
      have HCL := Lib.hid (toList_get a k hlt)
      by_cases h34 : ((a[k]'hlt).toNat : Int) = 34
      · have e1 : (((a[k]'hlt).toNat : Int) == 34) = true := beq_iff_eq.2 h34
        clear h34
        go_wp2_with fail
        refine (speaks_any w).mono ?_
        rintro e wd ⟨rfl, Hd⟩
        go_wp2_with fail
        go_ret
        exact ⟨rfl, Hd⟩
      · have e1 : (((a[k]'hlt).toNat : Int) == 34) = false := beq_eq_false_iff_ne.2 h34
        have HN2 := Lib.hid (all_step (p := fun c => c.toNat ≠ 34) HN.out HCL.out (by omega))
        clear h34
        go_wp2
        go_roundw
        case rel => exact ⟨k + 1, by go_num, by omega, HN2, by first | rfl | trivial⟩
        case measure => simp [intOf]; omega
    · obtain rfl : k = a.size := by omega
      have HIT := Lib.hid (items_parted fs a b (fun j c hc => HN.out j c (by rw [← toList_len]; exact (List.getElem?_eq_some_iff.1 hc).1) hc))
      clear HN
      obtain ⟨t1, w1, hr1, ho1, hg1⟩ := run_appF 22 w.heap.size w (.slice none 0 0) v 0 [] fs (World.ownsRow_nil _ _ _ _) hf.out h0.out (by omega) (Nat.le_refl _)
      have HT1 : Hid (OwnF w.heap.size w1 t1 fs) := Lib.hid (by unfold OwnF; simpa using ho1)
      have C1 := Lib.hid (Chg.grownOwn (Chg.refl [] w) (World.ownsRow_nil w w.heap.size 36 2) (Nat.le_refl _) hg1)
      have HBK := Lib.hid (Blk.new w1 (fcells [(xA, a), (xB, b)]) 36)
      have CA := Lib.hid (C1.out.alloc (.cells (fcells [(xA, a), (xB, b)]).toArray 36))
      have CA1 := Lib.hid ((Chg.refl [] w1).alloc (.cells (fcells [(xA, a), (xB, b)]).toArray 36))
      obtain ⟨t2, w2, hr2, ho2, hg2⟩ := run_appF 22 w.heap.size (w1.alloc (.cells (fcells [(xA, a), (xB, b)]).toArray 36)) t1 (.slice (some ⟨w1.heap.size, 0, none⟩) 2 2) _ _ [(xA, a), (xB, b)] (ownsRow_chg HT1.out CA1.out) (lit_flds HBK.out) (nil0_some _ _ _) (by simp; omega) CA.out.size
      have HT2 := Lib.hid (OwnF.join ho2)
      have C2 := Lib.hid (Chg.grownOwn CA.out (ownsRow_chg HT1.out CA1.out) (Nat.le_refl _) hg2)
      have HF2 := Lib.hid (hf.out.chg C2.out)
      obtain ⟨o1, w3, hr3, ho3, hg3⟩ := run_appF 22 w2.heap.size w2 (.slice none 0 0) v 0 [] fs (World.ownsRow_nil _ _ _ _) HF2.out h0.out (by omega) (Nat.le_refl _)
      have HO3 : Hid (OwnF w2.heap.size w3 o1 fs) := Lib.hid (by unfold OwnF; simpa using ho3)
      have C3 := Lib.hid (Chg.grownOwn (Chg.refl [] w2) (World.ownsRow_nil w2 w2.heap.size 36 2) (Nat.le_refl _) hg3)
      have C3A := Lib.hid (C3.out.alloc (.cells (fcells [(xC, a ++ ⟨#[44]⟩ ++ b)]).toArray 36))
      have C33 := Lib.hid ((Chg.refl [] w3).alloc (.cells (fcells [(xC, a ++ ⟨#[44]⟩ ++ b)]).toArray 36))
      have HBK3 := Lib.hid (Blk.new w3 (fcells [(xC, a ++ ⟨#[44]⟩ ++ b)]) 36)
      obtain ⟨o2, w4, hr4, ho4, hg4⟩ := run_appF 22 w2.heap.size (w3.alloc (.cells (fcells [(xC, a ++ ⟨#[44]⟩ ++ b)]).toArray 36)) o1 (.slice (some ⟨w3.heap.size, 0, none⟩) 1 1) _ _ [(xC, a ++ ⟨#[44]⟩ ++ b)] (ownsRow_chg HO3.out C33.out) (lit_flds HBK3.out) (nil0_some _ _ _) (by simp; omega) C3A.out.size
      have HO4 := Lib.hid (OwnF.join ho4)
      have C4 := Lib.hid (Chg.grownOwn C3A.out (ownsRow_chg HO3.out C33.out) (Nat.le_refl _) hg4)
      have HT4 := Lib.hid (HT2.out.chg C4.out)
      have C5 := Lib.hid (C2.out.trans C4.out (by simp))
      clear ho1 hg1 ho2 hg2 ho3 hg3 ho4 hg4 HT1 C1 HBK CA CA1 HT2 C2 HF2 HO3 C3 C3A C33 HBK3 C4
      have e2 : (fcells [(xA, a), (xB, b)]).toArray = #[.string ⟨#[88, 45, 76, 105, 115, 116]⟩, .string a, .string ⟨#[120, 45, 108, 105, 115, 116]⟩, .string b] := rfl
      have e4 : (fcells [(xC, a ++ ⟨#[44]⟩ ++ b)]).toArray = #[.string ⟨#[88, 45, 76, 73, 83, 84]⟩, .string (a ++ ⟨#[44]⟩ ++ b)] := rfl
      rw [e2] at hr2
      rw [e4] at hr4
      clear e2 e4
      have HBD1 : Hid (BdF (fs ++ [(xA, a), (xB, b)])) := Lib.hid (bd_app _ _ (by simp; omega) (by
        have h1 : lensF [(xA, a), (xB, b)] = 6 + a.size + (6 + b.size) := rfl
        have := hb.out.2.1
        omega) hb.out.2.2 (fun f hf => by
          simp only [List.mem_cons, List.not_mem_nil, or_false] at hf
          rcases hf with rfl | rfl
          · exact ⟨show xA.size ≤ 1048576 by decide, ha⟩
          · exact ⟨show xB.size ≤ 1048576 by decide, hbs⟩))
      have HBD2 : Hid (BdF (fs ++ [(xC, a ++ ⟨#[44]⟩ ++ b)])) := Lib.hid (bd_app _ _ (by simp; omega) (by
        have h1 : lensF [(xC, a ++ ⟨#[44]⟩ ++ b)] = 6 + (a ++ ⟨#[44]⟩ ++ b).size := rfl
        rw [h1, app_size, app_size]
        have h2 : (⟨#[44]⟩ : ByteArray).size = 1 := rfl
        have := hb.out.2.1
        omega) hb.out.2.2 (fun f hf => by
          simp only [List.mem_cons, List.not_mem_nil, or_false] at hf
          subst hf
          refine ⟨show xC.size ≤ 1048576 by decide, ?_⟩
          dsimp only
          rw [app_size, app_size]
          have h2 : (⟨#[44]⟩ : ByteArray).size = 1 := rfl
          omega))
      have hil := items_len _ xB HBD1.out
      have hnl : ¬ (a.size : Int) < (a.size : Int) := by omega
      go_wp2_with (first | (at_builtin; refine wpList_appF rfl _ _ rfl _ _ rfl rfl t1 w1 hr1 ?_) | (at_builtin; refine wpList_appF rfl _ _ rfl _ _ rfl rfl t2 w2 hr2 ?_) | (at_builtin; refine wpList_appF rfl _ _ rfl _ _ rfl rfl o1 w3 hr3 ?_) | (at_builtin; refine wpList_appF rfl _ _ rfl _ _ rfl rfl o2 w4 hr4 ?_))
      clear hr1 hr2 hr3 hr4
      refine (items_any t2 _ xB w4 (Lib.hid HT4.out.flds) HBD1 (by decide)).mono ?_
      rintro e w5 ⟨r5, rfl, HR5, H5⟩
      have C6 := Lib.hid (C5.out.trans H5.out (by simp))
      have HO5 := Lib.hid (HO4.out.chg H5.out)
      go_wp2_with fail
      refine (items_any o2 _ xB w5 (Lib.hid HO5.out.flds) HBD2 (by decide)).mono ?_
      rintro e w6 ⟨r6, rfl, HR6, H6⟩
      have C7 := Lib.hid (C6.out.trans H6.out (by simp))
      have HR5b := Lib.hid (HR5.out.chg H6.out)
      rw [HIT.out] at HR5b hil
      clear C5 C6 HO4 HO5 HT4 HR5 H5 H6 HIT HBD1 HBD2
      generalize itemsB (fs ++ [(xC, a ++ ⟨#[44]⟩ ++ b)]) xB = its at HR5b HR6 hil
      go_wp2_with fail
      refine (texts_eq _ _ r5 r6 its w6 HR5b HR6 hil).mono ?_
      rintro e w7 ⟨rfl, H7⟩
      have C8 := Lib.hid (C7.out.trans H7.out (by simp))
      go_wp2_with fail
      refine (speaks_any w7).mono ?_
      rintro e wd ⟨rfl, Hd⟩
      go_wp2_with fail
      go_ret
      exact ⟨rfl, C8.out.trans Hd.out (by simp)⟩
end Go.Proofs.YtiimofejcakgoaaDoor
