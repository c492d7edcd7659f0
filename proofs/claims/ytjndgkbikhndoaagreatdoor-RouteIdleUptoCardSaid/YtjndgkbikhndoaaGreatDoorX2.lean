/- Layer 13, the reference: match. -/
import Derived.Test.YtjndgkbikhndoaaGreatDoorX1
import Derived.Deep.DeepCutAuto
namespace Go.Proofs.YtjndgkbikhndoaaGreatDoor
open Go.RowKit Go.ChangeShapes Go.WideShapes
set_option linter.unusedVariables false

theorem hostOK_nil : hostOK ⟨#[]⟩ = false := by decide +kernel
theorem wildOK_short {s : ByteArray} (h : ¬ 2 < s.size) : wildOK s = false := by
  unfold wildOK
  cases hp : Lib.hasPrefix s.data.toList [42, 46]
  · rfl
  · have he : wildB s = ⟨#[]⟩ := by
      unfold wildB Lib.trimPrefix
      rw [if_pos hp, List.drop_eq_nil_of_le (by rw [toList_len]; show s.size ≤ 2; omega)]
    rw [he, hostOK_nil]
    rfl
theorem star_list : (⟨#[42, 46]⟩ : ByteArray).data.toList = [42, 46] := rfl
theorem star_list' : (⟨#[42, 46]⟩ : ByteArray).toList = [42, 46] := by rw [Lib.toList_data]
theorem star_size : (⟨#[42, 46]⟩ : ByteArray).size = 2 := rfl
theorem star_pre {s : ByteArray} (h : 2 < s.size) : ((s.extract 0 2).toList == [42, 46]) = Lib.hasPrefix s.data.toList [42, 46] := by
  have h1 := Lib.hasPrefix_raw s ⟨#[42, 46]⟩
  rw [star_list, star_list', star_size, decide_eq_true (show 2 ≤ s.size by omega), Bool.true_and] at h1
  exact h1
theorem star_wild {s : ByteArray} (h : 2 < s.size) (h2 : ((s.extract 0 2).toList == [42, 46]) = true) : wildB s = s.extract 2 s.size := by
  have h4 := Lib.trimPrefix_hit s ⟨#[42, 46]⟩ (by rw [star_size]; omega) (by rw [star_size, star_list']; exact h2)
  rw [star_list, star_size] at h4
  unfold wildB
  exact h4
theorem wildOK_long {s : ByteArray} (h : 2 < s.size) : wildOK s = (((s.extract 0 2).toList == [42, 46]) && hostOK (s.extract 2 s.size)) := by
  unfold wildOK
  rw [← star_pre h]
  cases h2 : ((s.extract 0 2).toList == [42, 46])
  · rw [Bool.false_and, Bool.false_and]
  · rw [star_wild h h2]
theorem ext2_size (s : ByteArray) : (s.extract 2 s.size).size ≤ s.size := ext_size s 2 s.size
set_option maxHeartbeats 8000000 in
set_option maxRecDepth 100000 in
theorem rmatch_any (host pre hd va : ByteArray) (ms : List ByteArray) (mv : Value) (w : World) (hms : Hid (Tbl w mv 1 (strRows ms))) (hsz : Hid (MtSz ⟨host, pre, ms, hd, va⟩)) (z : Bool) (hz : matchOK ⟨host, pre, ms, hd, va⟩ = z) :
    Calls Tryz.prog 81 #[.agg #[.string host, .string pre, mv, .string hd, .string va]] w fun e w' => e = .returned (.bool z) ∧ Hid (Chg [] w w') := by
  have hlen : (strRows ms).length = ms.length := by unfold strRows; rw [List.length_map]
  obtain ⟨A, cap, rfl⟩ := hms.out.form
  rw [hlen] at hms ⊢
  have HLen := Lib.hid hlen
  rw [match_eq] at hz
  have HZ := Lib.hid hz
  have hcap := hms.out.cap
  clear hz hlen
  have HB0 := Lib.hid (Blk.new w [.string host, .string pre, .slice A ms.length cap, .string hd, .string va] 24)
  have HC0 := Lib.hid ((Chg.refl [] w).alloc (.cells #[.string host, .string pre, .slice A ms.length cap, .string hd, .string va] 24))
  have HN0 := Lib.hid (show nameOK host = (decide (host.size = 0) || hostOK host || wildOK host) from rfl)
  have hhs : host.size ≤ 1048576 := hsz.out.host
  have hps : pre.size ≤ 1048576 := hsz.out.pre
  have hds : hd.size ≤ 1048576 := hsz.out.header
  have hvs : va.size ≤ 1048576 := hsz.out.value
  have hmn : ms.length ≤ 1048576 := hsz.out.mn
  have HMS := Lib.hid hsz.out.ms
  go_enter Tryz.func81, Tryz.ntmps81
  go_upto_region 1 with fail
  change Hid (Blk (w.alloc (.cells #[.string host, .string pre, .slice A ms.length cap, .string hd, .string va] 24)) _ _ _) at HB0
  generalize w.alloc (.cells #[.string host, .string pre, .slice A ms.length cap, .string hd, .string va] 24) = W1 at HB0 HC0 ⊢
  generalize w.heap.size = b at HB0 ⊢
  have HB := HB0
  have HC := HC0
  clear HB0 HC0
  go_cut [3] (fun s3 wx => s3 = .bool (nameOK host) ∧ Hid (Blk wx b [.string host, .string pre, .slice A ms.length cap, .string hd, .string va] 24) ∧ Hid (Chg [] w wx))
  case first =>
    (have HBb := HB.out;
     have c0 := HBb.cell 0 _ rfl;
     have c1 := HBb.cell 1 _ rfl;
     have c2 := HBb.cell 2 _ rfl;
     have c3 := HBb.cell 3 _ rfl;
     have c4 := HBb.cell 4 _ rfl;
     clear HBb)
    by_cases h0 : host.size = 0
    · have HN := Lib.hid (show nameOK host = true from by rw [HN0.out, decide_eq_true h0]; rfl)
      have he := emp_true h0
      clear h0
      go_wp2_with fail
      go_meet
      exact ⟨by first | rw [HN.out] | (rw [HN.out]; rfl), HB, HC⟩
    · have he := emp_false h0
      cases hh : hostOK host
      · have HN1 := HN0.out
        rw [decide_eq_false h0, hh, Bool.or_false, Bool.false_or] at HN1
        have HN1 := Lib.hid HN1
        have HH := Lib.hid hh
        clear h0 hh
        go_wp2_with fail
        refine (rhost_any host _ hhs false HH.out).mono ?_
        rintro e w2 ⟨rfl, H2⟩
        have HB2 := Lib.hid (HB.out.chg H2.out (by simp))
        have HC2 := Lib.hid (HC.out.trans H2.out (by simp))
        clear c0 c1 c2 c3 c4 HB HC
        have HB := HB2
        have HC := HC2
        clear HB2 HC2
        (have HBb := HB.out;
         have c0 := HBb.cell 0 _ rfl;
         have c1 := HBb.cell 1 _ rfl;
         have c2 := HBb.cell 2 _ rfl;
         have c3 := HBb.cell 3 _ rfl;
         have c4 := HBb.cell 4 _ rfl;
         clear HBb)
        by_cases h2 : 2 < host.size
        · have h2i : (2 : Int) < (host.size : Int) := by omega
          have q1 : ∀ w, (Instr.slice 9 (.string host) none (some (.int .i64 2)) none).run Tryz.prog w = .ok (.string (host.extract 0 2)) w := fun w => slice_to host 2 w (by omega)
          have q2 : ∀ w, (Instr.slice 9 (.string host) (some (.int .i64 2)) none none).run Tryz.prog w = .ok (.string (host.extract 2 host.size)) w := fun w => slice_from host 2 w (by omega)
          have hws := ext2_size host
          have hwo := wildOK_long h2
          generalize host.extract 0 2 = pf at *
          generalize host.extract 2 host.size = wild at *
          cases hp : (pf.toList == [42, 46])
          · have HN := Lib.hid (show nameOK host = false from by rw [HN1.out, hwo, hp]; rfl)
            clear hwo h2
            go_wp2_with fail
            go_meet
            exact ⟨by first | rw [HN.out] | (rw [HN.out]; rfl), HB, HC⟩
          · rw [hp, Bool.true_and] at hwo
            cases hw : hostOK wild
            · have HN := Lib.hid (show nameOK host = false from by rw [HN1.out, hwo, hw])
              have HW := Lib.hid hw
              clear hw hwo h2
              go_wp2_with fail
              refine (rhost_any wild _ (by omega) false HW.out).mono ?_
              rintro e w2 ⟨rfl, H2⟩
              have HB2 := Lib.hid (HB.out.chg H2.out (by simp))
              have HC2 := Lib.hid (HC.out.trans H2.out (by simp))
              clear c0 c1 c2 c3 c4 HB HC
              have HB := HB2
              have HC := HC2
              clear HB2 HC2
              (have HBb := HB.out;
               have c0 := HBb.cell 0 _ rfl;
               have c1 := HBb.cell 1 _ rfl;
               have c2 := HBb.cell 2 _ rfl;
               have c3 := HBb.cell 3 _ rfl;
               have c4 := HBb.cell 4 _ rfl;
               clear HBb)
              go_wp2_with fail
              go_meet
              exact ⟨by first | rw [HN.out] | (rw [HN.out]; rfl), HB, HC⟩
            · have HN := Lib.hid (show nameOK host = true from by rw [HN1.out, hwo, hw])
              have HW := Lib.hid hw
              clear hw hwo h2
              go_wp2_with fail
              refine (rhost_any wild _ (by omega) true HW.out).mono ?_
              rintro e w2 ⟨rfl, H2⟩
              have HB2 := Lib.hid (HB.out.chg H2.out (by simp))
              have HC2 := Lib.hid (HC.out.trans H2.out (by simp))
              clear c0 c1 c2 c3 c4 HB HC
              have HB := HB2
              have HC := HC2
              clear HB2 HC2
              (have HBb := HB.out;
               have c0 := HBb.cell 0 _ rfl;
               have c1 := HBb.cell 1 _ rfl;
               have c2 := HBb.cell 2 _ rfl;
               have c3 := HBb.cell 3 _ rfl;
               have c4 := HBb.cell 4 _ rfl;
               clear HBb)
              go_wp2_with fail
              go_meet
              exact ⟨by first | rw [HN.out] | (rw [HN.out]; rfl), HB, HC⟩
        · have h2i : ¬ (2 : Int) < (host.size : Int) := by omega
          have HN := Lib.hid (show nameOK host = false from by rw [HN1.out, wildOK_short h2])
          clear h2
          go_wp2_with fail
          go_meet
          exact ⟨by first | rw [HN.out] | (rw [HN.out]; rfl), HB, HC⟩
      · have HN := Lib.hid (show nameOK host = true from by rw [HN0.out, hh, Bool.or_true]; rfl)
        have HH := Lib.hid hh
        clear h0 hh
        go_wp2_with fail
        refine (rhost_any host _ hhs true HH.out).mono ?_
        rintro e w2 ⟨rfl, H2⟩
        have HB2 := Lib.hid (HB.out.chg H2.out (by simp))
        have HC2 := Lib.hid (HC.out.trans H2.out (by simp))
        clear c0 c1 c2 c3 c4 HB HC
        have HB := HB2
        have HC := HC2
        clear HB2 HC2
        (have HBb := HB.out;
         have c0 := HBb.cell 0 _ rfl;
         have c1 := HBb.cell 1 _ rfl;
         have c2 := HBb.cell 2 _ rfl;
         have c3 := HBb.cell 3 _ rfl;
         have c4 := HBb.cell 4 _ rfl;
         clear HBb)
        go_wp2_with fail
        go_meet
        exact ⟨by first | rw [HN.out] | (rw [HN.out]; rfl), HB, HC⟩
  case rest =>
  clear HB HC
  obtain ⟨rfl, HB, HC⟩ := hcut
  (have HBb := HB.out;
   have c0 := HBb.cell 0 _ rfl;
   have c1 := HBb.cell 1 _ rfl;
   have c2 := HBb.cell 2 _ rfl;
   have c3 := HBb.cell 3 _ rfl;
   have c4 := HBb.cell 4 _ rfl;
   clear HBb)
  have hz := HZ.out
  cases hn : nameOK host
  · rw [hn] at hz
    have HR := Lib.hid (show z = false from hz.symm)
    clear hz hn
    go_wp2
    go_ret
    exact ⟨by rw [HR.out]; rfl, HC.out⟩
  · rw [hn, Bool.true_and] at hz
    clear hn
    cases hpl : placeOK pre
    · rw [hpl] at hz
      have HR := Lib.hid (show z = false from hz.symm)
      have HPL := Lib.hid hpl
      clear hz hpl
      go_wp2_with fail
      refine (rplace_any pre _ false HPL.out).mono ?_
      rintro e w2 ⟨rfl, H2⟩
      have HB2 := Lib.hid (HB.out.chg H2.out (by simp))
      have HC2 := Lib.hid (HC.out.trans H2.out (by simp))
      clear c0 c1 c2 c3 c4 HB HC
      have HB := HB2
      have HC := HC2
      clear HB2 HC2
      (have HBb := HB.out;
       have c0 := HBb.cell 0 _ rfl;
       have c1 := HBb.cell 1 _ rfl;
       have c2 := HBb.cell 2 _ rfl;
       have c3 := HBb.cell 3 _ rfl;
       have c4 := HBb.cell 4 _ rfl;
       clear HBb)
      go_wp2
      go_ret
      exact ⟨by rw [HR.out]; rfl, HC.out⟩
    · rw [hpl, Bool.true_and] at hz
      have HPL := Lib.hid hpl
      clear hpl
      by_cases h8 : ms.length ≤ 8
      · rw [decide_eq_true h8, Bool.true_and] at hz
        have h8i : ¬ (8 : Int) < (ms.length : Int) := by omega
        have HZ2 := Lib.hid hz
        clear hz
        go_wp2_with fail
        refine (rplace_any pre _ true HPL.out).mono ?_
        rintro e w2 ⟨rfl, H2⟩
        have HB2 := Lib.hid (HB.out.chg H2.out (by simp))
        have HC2 := Lib.hid (HC.out.trans H2.out (by simp))
        clear c0 c1 c2 c3 c4 HB HC
        have HB := HB2
        have HC := HC2
        clear HB2 HC2
        (have HBb := HB.out;
         have c0 := HBb.cell 0 _ rfl;
         have c1 := HBb.cell 1 _ rfl;
         have c2 := HBb.cell 2 _ rfl;
         have c3 := HBb.cell 3 _ rfl;
         have c4 := HBb.cell 4 _ rfl;
         clear HBb)
        go_wp2_with fail
        clear c0 c1 c2 c3 c4
        generalize w2 = Wm at *
        go_loopw [49] (fun i wr => ∃ k : Nat, i = .int .i64 k ∧ k ≤ ms.length ∧ Hid (∀ (j : Nat) x, j < k → ms[j]? = some x → E.tokB x = true) ∧ Hid (Chg [] Wm wr)) (fun i _ => ms.length - (intOf i).toNat)
        case atStart => exact ⟨0, rfl, by omega, Lib.hid (fun j g hj => by omega), Chg.refl _ _⟩
        case round =>
          obtain ⟨k, rfl, hk, HN, HCk⟩ := hrel
          by_cases hlt : k < ms.length
          · obtain ⟨bm, om, rfl, hbs, hx⟩ := hms.out.at1 (by rw [HLen.out]; omega)
            obtain ⟨x, hxk⟩ : ∃ x, ms[k]? = some x := ⟨_, List.getElem?_eq_getElem hlt⟩
            have HCa := Lib.hid (HC.out.trans HCk.out (by simp))
            have c1 := HCa.out.cell (hx k _ (by unfold strRows; rw [List.getElem?_map, hxk]; rfl)) (by simp)
            have HX := Lib.hid hxk
            have hxs := HMS.out x (List.mem_of_getElem? hxk)
            clear hx hxk
            cases hin : E.tokB x
            · have hall : ms.all E.tokB = false := any_hit HX.out hin
              have HR := Lib.hid (show z = false from by rw [← HZ2.out, hall]; rfl)
              have HI := Lib.hid hin
              clear hin hall
              go_wp2_with fail
              refine (E.rtoken_any x _ hxs).mono ?_
              rintro e w3 ⟨rfl, H3⟩
              rw [HI.out]
              go_wp2_with fail
              go_ret
              exact ⟨by rw [HR.out]; rfl, HCa.out.trans H3.out (by simp)⟩
            · have HN2 := Lib.hid (next_good (p := E.tokB) HN.out HX.out hin)
              have HI := Lib.hid hin
              clear hin
              go_wp2_with fail
              refine (E.rtoken_any x _ hxs).mono ?_
              rintro e w3 ⟨rfl, H3⟩
              rw [HI.out]
              go_wp2_with fail
              go_roundw
              case rel => exact ⟨k + 1, by go_num, by omega, HN2, HCk.out.trans H3.out (by simp)⟩
              case measure => simp [intOf]; omega
          · obtain rfl : k = ms.length := by omega
            have hall : ms.all E.tokB = true := all_good HN.out
            have hz := HZ2.out
            rw [hall, Bool.true_and] at hz
            have HB2 := Lib.hid (HB.out.chg HCk.out (by simp))
            have HC2 := Lib.hid (HC.out.trans HCk.out (by simp))
            clear hall HB HC
            have HB := HB2
            have HC := HC2
            clear HB2 HC2
            (have HBb := HB.out;
             have c0 := HBb.cell 0 _ rfl;
             have c1 := HBb.cell 1 _ rfl;
             have c2 := HBb.cell 2 _ rfl;
             have c3 := HBb.cell 3 _ rfl;
             have c4 := HBb.cell 4 _ rfl;
             clear HBb)
            by_cases h0 : hd.size = 0
            · have he := emp_true h0
              have hz1 : decide (va.size = 0) = z := by rw [← hz]; unfold askOK; rw [if_pos h0]
              by_cases h1 : va.size = 0
              · have HR := Lib.hid (show z = true from by rw [← hz1, decide_eq_true h1])
                have he1 := emp_true h1
                clear h0 h1 hz hz1
                go_wp2
                go_ret
                exact ⟨by rw [HR.out]; rfl, HC.out⟩
              · have HR := Lib.hid (show z = false from by rw [← hz1, decide_eq_false h1])
                have he1 := emp_false h1
                clear h0 h1 hz hz1
                go_wp2
                go_ret
                exact ⟨by rw [HR.out]; rfl, HC.out⟩
            · have he := emp_false h0
              have hz1 : (E.tokB hd && E.valB va) = z := by rw [← hz]; unfold askOK; rw [if_neg h0]
              cases ht : E.tokB hd
              · have HR := Lib.hid (show z = false from by rw [← hz1, ht]; rfl)
                have HT := Lib.hid ht
                clear h0 hz hz1 ht
                go_wp2_with fail
                refine (E.rtoken_any hd _ hds).mono ?_
                rintro e w2 ⟨rfl, H2⟩
                have HB2 := Lib.hid (HB.out.chg H2.out (by simp))
                have HC2 := Lib.hid (HC.out.trans H2.out (by simp))
                clear c0 c1 c2 c3 c4 HB HC
                have HB := HB2
                have HC := HC2
                clear HB2 HC2
                (have HBb := HB.out;
                 have c0 := HBb.cell 0 _ rfl;
                 have c1 := HBb.cell 1 _ rfl;
                 have c2 := HBb.cell 2 _ rfl;
                 have c3 := HBb.cell 3 _ rfl;
                 have c4 := HBb.cell 4 _ rfl;
                 clear HBb)
                rw [HT.out]
                go_wp2
                go_ret
                exact ⟨by rw [HR.out]; rfl, HC.out⟩
              · have HR := Lib.hid (show z = E.valB va from by rw [← hz1, ht, Bool.true_and])
                have HT := Lib.hid ht
                clear h0 hz hz1 ht
                go_wp2_with fail
                refine (E.rtoken_any hd _ hds).mono ?_
                rintro e w2 ⟨rfl, H2⟩
                have HB2 := Lib.hid (HB.out.chg H2.out (by simp))
                have HC2 := Lib.hid (HC.out.trans H2.out (by simp))
                clear c0 c1 c2 c3 c4 HB HC
                have HB := HB2
                have HC := HC2
                clear HB2 HC2
                (have HBb := HB.out;
                 have c0 := HBb.cell 0 _ rfl;
                 have c1 := HBb.cell 1 _ rfl;
                 have c2 := HBb.cell 2 _ rfl;
                 have c3 := HBb.cell 3 _ rfl;
                 have c4 := HBb.cell 4 _ rfl;
                 clear HBb)
                rw [HT.out]
                go_wp2_with fail
                refine (E.rvalue_any va _ hvs).mono ?_
                rintro e w2 ⟨rfl, rfl⟩
                go_wp2
                go_ret
                exact ⟨by rw [HR.out]; rfl, HC.out⟩
      · rw [decide_eq_false h8] at hz
        have h8i : (8 : Int) < (ms.length : Int) := by omega
        have HR := Lib.hid (show z = false from hz.symm)
        clear hz
        go_wp2_with fail
        refine (rplace_any pre _ true HPL.out).mono ?_
        rintro e w2 ⟨rfl, H2⟩
        have HB2 := Lib.hid (HB.out.chg H2.out (by simp))
        have HC2 := Lib.hid (HC.out.trans H2.out (by simp))
        clear c0 c1 c2 c3 c4 HB HC
        have HB := HB2
        have HC := HC2
        clear HB2 HC2
        (have HBb := HB.out;
         have c0 := HBb.cell 0 _ rfl;
         have c1 := HBb.cell 1 _ rfl;
         have c2 := HBb.cell 2 _ rfl;
         have c3 := HBb.cell 3 _ rfl;
         have c4 := HBb.cell 4 _ rfl;
         clear HBb)
        go_wp2
        go_ret
        exact ⟨by rw [HR.out]; rfl, HC.out⟩
end Go.Proofs.YtjndgkbikhndoaaGreatDoor
