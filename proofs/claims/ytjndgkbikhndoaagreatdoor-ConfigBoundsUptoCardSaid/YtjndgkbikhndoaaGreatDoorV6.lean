/- Layer 13 (config), the program: match. -/
import Derived.Test.YtjndgkbikhndoaaGreatDoorV3
import Derived.Test.YtjndgkbikhndoaaGreatDoorV5
import Derived.Deep.DeepCutAuto
namespace Go.Proofs.YtjndgkbikhndoaaGreatDoor
open Go.RowKit Go.ChangeShapes Go.WideShapes
set_option linter.unusedVariables false

theorem emp_true {s : ByteArray} (h : s.size = 0) : s.toList.isEmpty = true := by
  have hl : s.data.toList = [] := List.eq_nil_of_length_eq_zero (by rw [toList_len]; exact h)
  rw [Lib.toList_data, hl]
  rfl
theorem emp_false {s : ByteArray} (h : ¬ s.size = 0) : s.toList.isEmpty = false := by
  rw [Lib.toList_data, List.isEmpty_eq_false_iff]
  intro e
  exact h (by rw [← toList_len, e]; rfl)
theorem tokB_empty {s : ByteArray} (h : s.size = 0) : E.tokB s = false := by
  have hl : s.data.toList = [] := List.eq_nil_of_length_eq_zero (by rw [toList_len]; exact h)
  unfold E.tokB
  rw [hl]
  rfl
def askOK (hd va : ByteArray) : Bool := if hd.size = 0 then decide (va.size = 0) else E.tokB hd && E.valB va
def nameOK (host : ByteArray) : Bool := decide (host.size = 0) || hostOK host || wildOK host
theorem match_eq (m : Mt) : matchOK m = (nameOK m.host && placeOK m.pre && decide (m.methods.length ≤ 8) && m.methods.all E.tokB && askOK m.header m.value) := rfl
theorem trimPre_len (l p : List UInt8) : (Lib.trimPrefix l p).length ≤ l.length := by
  unfold Lib.trimPrefix
  split
  · rw [List.length_drop]; omega
  · omega
theorem wildB_len (s : ByteArray) : (wildB s).size ≤ s.size := by
  have := trimPre_len s.data.toList [42, 46]
  rw [toList_len] at this
  show (wildB s).data.size ≤ _
  unfold wildB
  rw [List.size_toArray]
  exact this
set_option maxHeartbeats 8000000 in
set_option maxRecDepth 100000 in
theorem cmatch_any (host pre hd va : ByteArray) (ms : List ByteArray) (mv : Value) (w : World) (hE : Hid (Env w)) (hms : Hid (Tbl w mv 1 (strRows ms))) (hsz : Hid (MtSz ⟨host, pre, ms, hd, va⟩)) (z : Bool) (hz : matchOK ⟨host, pre, ms, hd, va⟩ = z) :
    Calls Tryz.prog 62 #[.agg #[.string host, .string pre, mv, .string hd, .string va]] w fun e w' => e = .returned (.bool z) ∧ Hid (Chg [] w w') := by
  have hlen : (strRows ms).length = ms.length := by unfold strRows; rw [List.length_map]
  obtain ⟨A, cap, rfl⟩ := hms.out.form
  rw [hlen] at hms ⊢
  have HLen := Lib.hid hlen
  rw [match_eq] at hz
  have HZ := Lib.hid hz
  clear hz hlen
  have HB0 := Lib.hid (Blk.new w [.string host, .string pre, .slice A ms.length cap, .string hd, .string va] 24)
  have HC0 := Lib.hid ((Chg.refl [] w).alloc (.cells #[.string host, .string pre, .slice A ms.length cap, .string hd, .string va] 24))
  have HP := Lib.hid (fun w => Tryz.strings_CutPrefix host ⟨#[42, 46]⟩ w)
  rw [show (⟨#[42, 46]⟩ : ByteArray).data.toList = [42, 46] from rfl] at HP
  have hwl := wildB_len host
  have hw : (⟨(Lib.trimPrefix host.data.toList [42, 46]).toArray⟩ : ByteArray) = wildB host := rfl
  rw [hw] at HP
  have hwo : wildOK host = (Lib.hasPrefix host.data.toList [42, 46] && hostOK (wildB host)) := rfl
  have hno : nameOK host = (decide (host.size = 0) || hostOK host || wildOK host) := rfl
  rw [hwo] at hno
  obtain ⟨is, his⟩ : ∃ is, Lib.hasPrefix host.data.toList [42, 46] = is := ⟨_, rfl⟩
  rw [his] at HP hno
  generalize wildB host = wild at *
  have HN0 := Lib.hid hno
  clear hw hwo his hno
  have hhs : host.size ≤ 1048576 := hsz.out.host
  have hps : pre.size ≤ 1048576 := hsz.out.pre
  have hds : hd.size ≤ 1048576 := hsz.out.header
  have hvs : va.size ≤ 1048576 := hsz.out.value
  have hmn : ms.length ≤ 1048576 := hsz.out.mn
  have HMS := Lib.hid hsz.out.ms
  go_enter Tryz.func62, Tryz.ntmps62
  go_upto_region 2 with (go_at_call 30; (with_reducible refine (HP.out _).mono ?_); rintro e w' ⟨rfl, hw⟩; rw [hw]; clear hw)
  generalize w.alloc (.cells #[.string host, .string pre, .slice A ms.length cap, .string hd, .string va] 24) = W1 at HB0 HC0 ⊢
  generalize w.heap.size = b at HB0 ⊢
  have HB := HB0
  have HC := HC0
  clear HB0 HC0
  go_cut [5] (fun s5 wx => s5 = .bool (nameOK host) ∧ Hid (Blk wx b [.string host, .string pre, .slice A ms.length cap, .string hd, .string va] 24) ∧ Hid (Chg [] w wx))
  case first =>
    (have HBb := HB.out;
     have c0 := HBb.cell 0 _ rfl;
     have c1 := HBb.cell 1 _ rfl;
     have c2 := HBb.cell 2 _ rfl;
     have c3 := HBb.cell 3 _ rfl;
     have c4 := HBb.cell 4 _ rfl;
     clear HBb)
    by_cases h0 : host.size = 0
    · have HN := Lib.hid (show nameOK host = true from by rw [HN0.out, decide_eq_true h0]; rfl)
      have he := emp_true h0
      clear h0
      go_wp2_with fail
      go_meet
      exact ⟨by first | rw [HN.out] | (rw [HN.out]; rfl), HB, HC⟩
    · have he := emp_false h0
      cases hh : hostOK host
      · have HN1 := HN0.out
        rw [decide_eq_false h0, hh, Bool.or_false, Bool.false_or] at HN1
        have HN1 := Lib.hid HN1
        have HH := Lib.hid hh
        clear h0 hh
        go_wp2_with fail
        refine (chost_any host _ hhs (Lib.hid (hE.out.chg HC.out)) false HH.out).mono ?_
        rintro e w2 ⟨rfl, H2⟩
        have HB2 := Lib.hid (HB.out.chg H2.out (by simp))
        have HC2 := Lib.hid (HC.out.trans H2.out (by simp))
        clear c0 c1 c2 c3 c4 HB HC
        have HB := HB2
        have HC := HC2
        clear HB2 HC2
        (have HBb := HB.out;
         have c0 := HBb.cell 0 _ rfl;
         have c1 := HBb.cell 1 _ rfl;
         have c2 := HBb.cell 2 _ rfl;
         have c3 := HBb.cell 3 _ rfl;
         have c4 := HBb.cell 4 _ rfl;
         clear HBb)
        cases is
        · have HN := Lib.hid (show nameOK host = false from by rw [HN1.out]; rfl)
          go_wp2_with fail
          go_meet
          exact ⟨by first | rw [HN.out] | (rw [HN.out]; rfl), HB, HC⟩
        · cases hw : hostOK wild
          · have HN := Lib.hid (show nameOK host = false from by rw [HN1.out, hw]; rfl)
            have HW := Lib.hid hw
            clear hw
            go_wp2_with fail
            refine (chost_any wild _ (by omega) (Lib.hid (hE.out.chg HC.out)) false HW.out).mono ?_
            rintro e w2 ⟨rfl, H2⟩
            have HB2 := Lib.hid (HB.out.chg H2.out (by simp))
            have HC2 := Lib.hid (HC.out.trans H2.out (by simp))
            clear c0 c1 c2 c3 c4 HB HC
            have HB := HB2
            have HC := HC2
            clear HB2 HC2
            (have HBb := HB.out;
             have c0 := HBb.cell 0 _ rfl;
             have c1 := HBb.cell 1 _ rfl;
             have c2 := HBb.cell 2 _ rfl;
             have c3 := HBb.cell 3 _ rfl;
             have c4 := HBb.cell 4 _ rfl;
             clear HBb)
            go_wp2_with fail
            go_meet
            exact ⟨by first | rw [HN.out] | (rw [HN.out]; rfl), HB, HC⟩
          · have HN := Lib.hid (show nameOK host = true from by rw [HN1.out, hw]; rfl)
            have HW := Lib.hid hw
            clear hw
            go_wp2_with fail
            refine (chost_any wild _ (by omega) (Lib.hid (hE.out.chg HC.out)) true HW.out).mono ?_
            rintro e w2 ⟨rfl, H2⟩
            have HB2 := Lib.hid (HB.out.chg H2.out (by simp))
            have HC2 := Lib.hid (HC.out.trans H2.out (by simp))
            clear c0 c1 c2 c3 c4 HB HC
            have HB := HB2
            have HC := HC2
            clear HB2 HC2
            (have HBb := HB.out;
             have c0 := HBb.cell 0 _ rfl;
             have c1 := HBb.cell 1 _ rfl;
             have c2 := HBb.cell 2 _ rfl;
             have c3 := HBb.cell 3 _ rfl;
             have c4 := HBb.cell 4 _ rfl;
             clear HBb)
            go_wp2_with fail
            go_meet
            exact ⟨by first | rw [HN.out] | (rw [HN.out]; rfl), HB, HC⟩
      · have HN := Lib.hid (show nameOK host = true from by rw [HN0.out, hh, Bool.or_true]; rfl)
        have HH := Lib.hid hh
        clear h0 hh
        go_wp2_with fail
        refine (chost_any host _ hhs (Lib.hid (hE.out.chg HC.out)) true HH.out).mono ?_
        rintro e w2 ⟨rfl, H2⟩
        have HB2 := Lib.hid (HB.out.chg H2.out (by simp))
        have HC2 := Lib.hid (HC.out.trans H2.out (by simp))
        clear c0 c1 c2 c3 c4 HB HC
        have HB := HB2
        have HC := HC2
        clear HB2 HC2
        (have HBb := HB.out;
         have c0 := HBb.cell 0 _ rfl;
         have c1 := HBb.cell 1 _ rfl;
         have c2 := HBb.cell 2 _ rfl;
         have c3 := HBb.cell 3 _ rfl;
         have c4 := HBb.cell 4 _ rfl;
         clear HBb)
        go_wp2_with fail
        go_meet
        exact ⟨by first | rw [HN.out] | (rw [HN.out]; rfl), HB, HC⟩
  case rest =>
  clear HB HC
  obtain ⟨rfl, HB, HC⟩ := hcut
  go_upto_region 4 with fail
  go_cut [7] (fun s7 wx => s7 = .bool (askOK hd va) ∧ Hid (Blk wx b [.string host, .string pre, .slice A ms.length cap, .string hd, .string va] 24) ∧ Hid (Chg [] w wx))
  case first =>
    (have HBb := HB.out;
     have c0 := HBb.cell 0 _ rfl;
     have c1 := HBb.cell 1 _ rfl;
     have c2 := HBb.cell 2 _ rfl;
     have c3 := HBb.cell 3 _ rfl;
     have c4 := HBb.cell 4 _ rfl;
     clear HBb)
    by_cases h0 : hd.size = 0
    · have he := emp_true h0
      by_cases h1 : va.size = 0
      · have HN := Lib.hid (show askOK hd va = true from by unfold askOK; rw [if_pos h0, decide_eq_true h1])
        have he1 := emp_true h1
        clear h0 h1
        go_wp2_with fail
        go_meet
        exact ⟨by first | rw [HN.out] | (rw [HN.out]; rfl), HB, HC⟩
      · have HN := Lib.hid (show askOK hd va = false from by unfold askOK; rw [if_pos h0, decide_eq_false h1])
        have he1 := emp_false h1
        have HT := Lib.hid (tokB_empty h0)
        clear h0 h1
        go_wp2_with fail
        refine (E.token_any hd _ hds).mono ?_
        rintro e w2 ⟨rfl, H2⟩
        have HB2 := Lib.hid (HB.out.chg H2.out (by simp))
        have HC2 := Lib.hid (HC.out.trans H2.out (by simp))
        clear c0 c1 c2 c3 c4 HB HC
        have HB := HB2
        have HC := HC2
        clear HB2 HC2
        (have HBb := HB.out;
         have c0 := HBb.cell 0 _ rfl;
         have c1 := HBb.cell 1 _ rfl;
         have c2 := HBb.cell 2 _ rfl;
         have c3 := HBb.cell 3 _ rfl;
         have c4 := HBb.cell 4 _ rfl;
         clear HBb)
        rw [HT.out]
        go_wp2_with fail
        go_meet
        exact ⟨by first | rw [HN.out] | (rw [HN.out]; rfl), HB, HC⟩
    · have he := emp_false h0
      have hask : askOK hd va = (E.tokB hd && E.valB va) := by unfold askOK; rw [if_neg h0]
      have HA := Lib.hid hask
      clear h0 hask
      go_wp2_with fail
      refine (E.token_any hd _ hds).mono ?_
      rintro e w2 ⟨rfl, H2⟩
      have HB2 := Lib.hid (HB.out.chg H2.out (by simp))
      have HC2 := Lib.hid (HC.out.trans H2.out (by simp))
      clear c0 c1 c2 c3 c4 HB HC
      have HB := HB2
      have HC := HC2
      clear HB2 HC2
      (have HBb := HB.out;
       have c0 := HBb.cell 0 _ rfl;
       have c1 := HBb.cell 1 _ rfl;
       have c2 := HBb.cell 2 _ rfl;
       have c3 := HBb.cell 3 _ rfl;
       have c4 := HBb.cell 4 _ rfl;
       clear HBb)
      cases ht : E.tokB hd
      · have HN := Lib.hid (show askOK hd va = false from by rw [HA.out, ht]; rfl)
        clear ht
        go_wp2_with fail
        go_meet
        exact ⟨by first | rw [HN.out] | (rw [HN.out]; rfl), HB, HC⟩
      · have HN := Lib.hid (show askOK hd va = E.valB va from by rw [HA.out, ht, Bool.true_and])
        clear ht
        go_wp2_with fail
        refine (E.value_any va _ hvs).mono ?_
        rintro e w2 ⟨rfl, H2⟩
        have HB2 := Lib.hid (HB.out.chg H2.out (by simp))
        have HC2 := Lib.hid (HC.out.trans H2.out (by simp))
        clear c0 c1 c2 c3 c4 HB HC
        have HB := HB2
        have HC := HC2
        clear HB2 HC2
        (have HBb := HB.out;
         have c0 := HBb.cell 0 _ rfl;
         have c1 := HBb.cell 1 _ rfl;
         have c2 := HBb.cell 2 _ rfl;
         have c3 := HBb.cell 3 _ rfl;
         have c4 := HBb.cell 4 _ rfl;
         clear HBb)
        go_wp2_with fail
        go_meet
        exact ⟨by first | rw [HN.out] | (rw [HN.out]; rfl), HB, HC⟩
  case rest =>
  clear HB HC
  obtain ⟨rfl, HB, HC⟩ := hcut
  (have HBb := HB.out;
   have c0 := HBb.cell 0 _ rfl;
   have c1 := HBb.cell 1 _ rfl;
   have c2 := HBb.cell 2 _ rfl;
   have c3 := HBb.cell 3 _ rfl;
   have c4 := HBb.cell 4 _ rfl;
   clear HBb)
  have hz := HZ.out
  generalize askOK hd va = ask at hz ⊢
  cases hn : nameOK host
  · rw [hn] at hz
    have HR := Lib.hid (show z = false from hz.symm)
    clear hz hn
    go_wp2
    go_ret
    exact ⟨by rw [HR.out]; rfl, HC.out⟩
  · rw [hn, Bool.true_and] at hz
    clear hn
    cases hpl : placeOK pre
    · rw [hpl] at hz
      have HR := Lib.hid (show z = false from hz.symm)
      have HPL := Lib.hid hpl
      clear hz hpl
      go_wp2_with fail
      refine (cplace_any pre _ (Lib.hid (hE.out.chg HC.out)) false HPL.out).mono ?_
      rintro e w2 ⟨rfl, H2⟩
      have HB2 := Lib.hid (HB.out.chg H2.out (by simp))
      have HC2 := Lib.hid (HC.out.trans H2.out (by simp))
      clear c0 c1 c2 c3 c4 HB HC
      have HB := HB2
      have HC := HC2
      clear HB2 HC2
      (have HBb := HB.out;
       have c0 := HBb.cell 0 _ rfl;
       have c1 := HBb.cell 1 _ rfl;
       have c2 := HBb.cell 2 _ rfl;
       have c3 := HBb.cell 3 _ rfl;
       have c4 := HBb.cell 4 _ rfl;
       clear HBb)
      go_wp2
      go_ret
      exact ⟨by rw [HR.out]; rfl, HC.out⟩
    · rw [hpl, Bool.true_and] at hz
      have HPL := Lib.hid hpl
      clear hpl
      by_cases h8 : ms.length ≤ 8
      · rw [decide_eq_true h8, Bool.true_and] at hz
        have h8i : (ms.length : Int) ≤ 8 := by omega
        have HZ2 := Lib.hid hz
        clear hz
        go_wp2_with fail
        refine (cplace_any pre _ (Lib.hid (hE.out.chg HC.out)) true HPL.out).mono ?_
        rintro e w2 ⟨rfl, H2⟩
        have HB2 := Lib.hid (HB.out.chg H2.out (by simp))
        have HC2 := Lib.hid (HC.out.trans H2.out (by simp))
        clear c0 c1 c2 c3 c4 HB HC
        have HB := HB2
        have HC := HC2
        clear HB2 HC2
        (have HBb := HB.out;
         have c0 := HBb.cell 0 _ rfl;
         have c1 := HBb.cell 1 _ rfl;
         have c2 := HBb.cell 2 _ rfl;
         have c3 := HBb.cell 3 _ rfl;
         have c4 := HBb.cell 4 _ rfl;
         clear HBb)
        go_wp2_with fail
        refine (containsS_any _ ms _ (Lib.hid (hms.out.chg HC.out)) hmn HMS).mono ?_
        rintro e w2 ⟨rfl, H2⟩
        have HB2 := Lib.hid (HB.out.chg H2.out (by simp))
        have HC2 := Lib.hid (HC.out.trans H2.out (by simp))
        clear c0 c1 c2 c3 c4 HB HC
        have HB := HB2
        have HC := HC2
        clear HB2 HC2
        (have HBb := HB.out;
         have c0 := HBb.cell 0 _ rfl;
         have c1 := HBb.cell 1 _ rfl;
         have c2 := HBb.cell 2 _ rfl;
         have c3 := HBb.cell 3 _ rfl;
         have c4 := HBb.cell 4 _ rfl;
         clear HBb)
        have hz := HZ2.out
        cases hall : ms.all E.tokB
        · rw [hall] at hz
          have HR := Lib.hid (show z = false from hz.symm)
          clear hz hall
          go_wp2
          go_ret
          exact ⟨by rw [HR.out]; rfl, HC.out⟩
        · rw [hall, Bool.true_and] at hz
          have HR := Lib.hid hz
          clear hz hall
          go_wp2
          go_ret
          exact ⟨by rw [← HR.out]; rfl, HC.out⟩
      · rw [decide_eq_false h8] at hz
        have h8i : ¬ (ms.length : Int) ≤ 8 := by omega
        have HR := Lib.hid (show z = false from hz.symm)
        clear hz
        go_wp2_with fail
        refine (cplace_any pre _ (Lib.hid (hE.out.chg HC.out)) true HPL.out).mono ?_
        rintro e w2 ⟨rfl, H2⟩
        have HB2 := Lib.hid (HB.out.chg H2.out (by simp))
        have HC2 := Lib.hid (HC.out.trans H2.out (by simp))
        clear c0 c1 c2 c3 c4 HB HC
        have HB := HB2
        have HC := HC2
        clear HB2 HC2
        (have HBb := HB.out;
         have c0 := HBb.cell 0 _ rfl;
         have c1 := HBb.cell 1 _ rfl;
         have c2 := HBb.cell 2 _ rfl;
         have c3 := HBb.cell 3 _ rfl;
         have c4 := HBb.cell 4 _ rfl;
         clear HBb)
        go_wp2
        go_ret
        exact ⟨by rw [HR.out]; rfl, HC.out⟩
end Go.Proofs.YtjndgkbikhndoaaGreatDoor
