/- An attempt's end is told: Result, the reference's side. -/
import Derived.Test.YteaepadamhmknaaH8
namespace Go.Proofs.Yteaepadamhmknaa
open Go.RowKit
set_option linter.unusedVariables false

theorem rresult_bad (p : Option Addr) (now i : Int) (ok : Bool) (h : now < 0 ∨ 4611686018427387904 < now) (w : World) : Calls Try.prog 35 #[.pointer p, .int .i64 now, .int .i64 i, .bool ok] w fun e w' => e = .returned (.tuple #[.bool false, .int .i64 1]) ∧ w = w' := by
  have HB := Lib.hid h
  clear h
  go_enter Try.func35, Try.ntmps35
  go_wp2_with (first | (go_at_call 46; (with_reducible refine (asked_bad p now i HB.out _).mono ?_); rintro e w' ⟨rfl, rfl⟩))
  go_ret2
  exact ⟨rfl, rfl⟩
theorem rresult_none (b g : Nat) (fails base long share last now i : Int) (ok : Bool) (hs : List Ho) (w : World) (h : Hst 73 79 w b g fails base long share last hs) (n0 : 0 ≤ now) (n1 : now ≤ 4611686018427387904) (hi : i < 0 ∨ (hs.length : Int) ≤ i) : Calls Try.prog 35 #[.pointer (some ⟨b, 0, none⟩), .int .i64 now, .int .i64 i, .bool ok] w fun e w' => e = .returned (.tuple #[.bool false, .int .i64 6]) ∧ w = w' := by
  have HH := Lib.hid h
  have HI := Lib.hid hi
  clear h hi
  go_enter Try.func35, Try.ntmps35
  go_wp2_with (first | (go_at_call 46; (with_reducible refine (asked_none b g fails base long share last now i hs _ HH.out n0 n1 HI.out).mono ?_); rintro e w' ⟨rfl, rfl⟩))
  go_ret2
  exact ⟨rfl, rfl⟩
set_option maxHeartbeats 8000000 in
set_option maxRecDepth 100000 in
theorem rresult_any (b g : Nat) (fails base long share last now L : Int) (ok : Bool) (hs hs' : List Ho) (E : hs' = hs.map (Ho.rst L)) (w : World) (h : Hst 73 79 w b g fails base long share last hs) (hg : Good hs.length fails base long share) (n0 : 0 ≤ now) (n1 : now ≤ 4611686018427387904) (hL : (L = now ∧ last < now) ∨ (L = last ∧ now ≤ last)) (hl0 : 0 ≤ L) (hl1 : L ≤ 4611686018427387904) (i : Nat) (x y : Ho) (z : Bool) (hx : hs'[i]? = some x)
    (r0 : 0 ≤ x.row) (r1 : x.row ≤ 6000000000000) (t0 : 0 ≤ x.times) (t1 : x.times ≤ 6000000000000) (hy : res fails base long share L hs' x ok = (y, z)) :
    Calls Try.prog 35 #[.pointer (some ⟨b, 0, none⟩), .int .i64 now, .int .i64 i, .bool ok] w fun e w' => e = .returned (.tuple #[.bool z, .int .i64 0]) ∧ Hid (Brought 73 79 b g fails base long share L (hs'.set i y) w w') := by
  obtain ⟨g1, g2, g3, g4, g5, g6, g7, g8, g9, ga⟩ := hg
  have hll : hs'.length = hs.length := by rw [E]; simp
  have HH := Lib.hid h
  have HL := Lib.hid hL
  have HX := Lib.hid hx
  have hi : i < hs.length := by rw [← hll]; exact (List.getElem?_eq_some_iff.1 hx).1
  have hl2 : hs.length ≤ 16 := by omega
  replace E := Lib.hid E
  clear h hL hx
  go_enter Try.func35, Try.ntmps35
  go_wp2_with fail
  refine (asked_any b g fails base long share last now L hs _ HH.out hl2 n0 n1 HL.out i hi).mono ?_
  rintro e w1 ⟨rfl, HB⟩
  rw [← E.out] at HB
  obtain ⟨d0, d1, d2, d3, d4⟩ := HB.out.1.host HX.out
  obtain ⟨sick, out, til, row, times⟩ := x
  dsimp only at d0 d1 d2 d3 d4 r0 r1 t0 t1
  have c5 := HB.out.1.num.cell 5 _ rfl
  rw [hll] at c5
  unfold res at hy
  dsimp only at hy
  go_upto_region 5 with fail
  have hsz := HB.out.2.size
  have HP := Lib.hid (HB.out.1.frame ((Chg.refl [] w1).alloc (.cells #[.bool sick, .bool out, .int .i64 til, .int .i64 row, .int .i64 times] 79)) (by simp) (by simp))
  have HPC := Lib.hid (HB.out.2.alloc (.cells #[.bool sick, .bool out, .int .i64 til, .int .i64 row, .int .i64 times] 79))
  have HQ := Lib.hid (Blk.new w1 [.bool sick, .bool out, .int .i64 til, .int .i64 row, .int .i64 times] 79)
  have pb : b ≠ w1.heap.size := Nat.ne_of_lt HB.out.1.num.lt
  have pg : g ≠ w1.heap.size := Nat.ne_of_lt (Blk.lt HB.out.1.recs)
  have p0 : w.heap.size ≤ w1.heap.size := HB.out.2.size
  clear HB d0 d1 d2 d3 d4 c5 hsz
  generalize w1.alloc (.cells #[.bool sick, .bool out, .int .i64 til, .int .i64 row, .int .i64 times] 79) = wa at *
  generalize w1.heap.size = p at *
  have q1 := HQ.out.cell 1 _ rfl
  cases out
  · rw [if_neg (by decide)] at hy
    cases ok
    · rw [if_neg (by decide)] at hy
      have HY := Lib.hid hy
      clear hy
      have q3 := HQ.out.cell 3 _ rfl
      have fq3 := HQ.out.free 3
      have hwr : IntKind.i64.wrap (row + 1) = row + 1 := IntWalk.i64_in _ (by omega)
      go_upto_region 11 with fail
      have HPb := Lib.hid (HP.out.frame ((Chg.refl [p] wa).setCell (p := ⟨p, 3, none⟩) (by simp) (.int .i64 (row + 1))) (by simpa using pb) (by simpa using pg))
      have HQb := Lib.hid (HQ.out.set 3 (.int .i64 (row + 1)))
      have HPCb := Lib.hid (HPC.out.setCell (p := ⟨p, 3, none⟩) (by dsimp only; omega) (.int .i64 (row + 1)))
      clear HP HQ HPC q1 q3 fq3
      generalize wa.setCell ⟨p, 3, none⟩ (.int .i64 (row + 1)) = wb at *
      have hHb : Hid (Blk wb p [.bool sick, .bool false, .int .i64 til, .int .i64 (row + 1), .int .i64 times] 79) := HQb
      clear HQb
      rw [hll] at HY
      go_cut [12] (fun v wx => v = .bool z ∧ Hid (Hst 73 79 wx b g fails base long share L hs') ∧ Hid (Blk wx p [.bool sick, .bool false, .int .i64 til, .int .i64 (row + 1), .int .i64 times] 79) ∧ Hid (Chg [b, g] w wx))
      case first =>
        have q3 := hHb.out.cell 3 _ rfl
        have c0 := HPb.out.num.cell 0 _ rfl
        have c3 := HPb.out.num.cell 3 _ rfl
        have c5 := HPb.out.num.cell 5 _ rfl
        rw [hll] at c5
        have hnl := nout_le hs'
        rw [hll] at hnl
        by_cases k1 : fails = 0
        · have hz : z = false := by
            have hy := HY.out
            rw [if_pos (.inl k1)] at hy
            injection hy with e1 e2
            exact e2.symm
          subst k1 hz
          clear HY
          go_quiet (fail)
          go_wp2_with fail
          go_meet
          exact ⟨rfl, HPb.out.frame ((Chg.refl [] _).drewN _) (by simp) (by simp), hHb.out.drewN _, HPCb.out.drewN _⟩
        have k1' : decide (0 < fails) = true := decide_eq_true (by omega)
        by_cases k2 : row + 1 < fails
        · have hz : z = false := by
            have hy := HY.out
            rw [if_pos (.inr (.inl k2))] at hy
            injection hy with e1 e2
            exact e2.symm
          subst hz
          clear HY
          have k2' : decide (fails ≤ row + 1) = false := decide_eq_false (by omega)
          go_quiet (fail)
          go_wp2_with fail
          go_meet
          exact ⟨rfl, HPb.out.frame ((Chg.refl [] _).drewN _) (by simp) (by simp), hHb.out.drewN _, HPCb.out.drewN _⟩
        have k2' : decide (fails ≤ row + 1) = true := decide_eq_true (by omega)
        obtain ⟨no, hno2⟩ : ∃ q : Nat, q = nout hs' := ⟨_, rfl⟩
        have hno := Lib.hid hno2.symm
        rw [← hno2] at hnl HY
        clear hno2
        have hnm : share * (hs.length : Int) ≤ 100 * 16 := Int.mul_le_mul ga g2 (by omega) (by omega)
        have hnz : 0 ≤ share * (hs.length : Int) := Int.mul_nonneg g9 (by omega)
        have hw1 : IntKind.i64.wrap ((no : Int) + 1) = (no : Int) + 1 := IntWalk.i64_in _ (by omega)
        have hw2 : IntKind.i64.wrap (100 * ((no : Int) + 1)) = 100 * ((no : Int) + 1) := IntWalk.i64_in _ (by omega)
        have hw3 : IntKind.i64.wrap (share * (hs.length : Int)) = share * (hs.length : Int) := IntWalk.i64_in _ (by omega)
        have hz : z = decide (100 * ((no : Int) + 1) ≤ share * (hs.length : Int)) := by
          have hy := HY.out
          by_cases k3 : share * (hs.length : Int) < 100 * ((no : Int) + 1)
          · rw [if_pos (.inr (.inr k3))] at hy
            injection hy with e1 e2
            rw [← e2, decide_eq_false (by omega)]
          · rw [if_neg (by omega)] at hy
            injection hy with e1 e2
            rw [← e2, decide_eq_true (by omega)]
        subst hz
        clear HY
        go_region_held3 (fun w' => w'.cell? ⟨b, 0, none⟩ = some (.int .i64 fails) ∧ w'.cell? ⟨p, 3, none⟩ = some (.int .i64 (row + 1)) ∧ w'.cell? ⟨b, 3, none⟩ = some (.int .i64 share) ∧ w'.cell? ⟨b, 5, none⟩ = some (.slice (some ⟨g, 0, none⟩) hs.length hs.length))
          (exact ⟨c0, q3, c3, c5⟩)
          (first | (go_at_call 25; (with_reducible refine (rejected_any b g fails base long share L _ _ (HPb.out.frame (F := []) (by first | exact Chg.refl [] _ | exact (Chg.refl [] _).drew | exact (Chg.refl [] _).drewN _) (by simp) (by simp)) (by omega)).mono ?_); rintro e w3 ⟨rfl, hc⟩; have hc2 := Chg.trans (F := []) (a := wb) (by first | exact Chg.refl [] _ | exact (Chg.refl [] _).drew | exact (Chg.refl [] _).drewN _) hc.out (by simp); have hq := HPb.out.frame hc2 (by simp) (by simp); have c0 := hq.num.cell 0 _ rfl; have c3 := hq.num.cell 3 _ rfl; have c5 := hq.num.cell 5 _ rfl; rw [hll] at c5; have hr := hHb.out.chg hc2 (by simp); have q3 := hr.cell 3 _ rfl; replace hq := Lib.hid hq; replace hr := Lib.hid hr; replace hc2 := Lib.hid hc2; clear hc; rw [hno.out]))
        go_wp2_with fail
        go_meet
        exact ⟨rfl, hq.out, hr.out, HPCb.out.trans hc2.out (by simp)⟩
      case rest =>
        obtain ⟨rfl, HPc, HQc, HCc⟩ := hcut
        go_upto_if 73 with fail
        go_cut [] (fun wx => Hid (Hst 73 79 wx b g fails base long share L hs') ∧ Hid (Blk wx p y.cells 79) ∧ Hid (Chg [b, g] w wx))
        case first =>
          by_cases kz : fails = 0 ∨ row + 1 < fails ∨ share * (hs.length : Int) < 100 * ((nout hs' : Int) + 1)
          · have hy := HY.out
            rw [if_pos kz] at hy
            injection hy with e1 e2
            subst e1 e2
            clear HY kz
            go_wp2_with fail
            go_meet
            exact ⟨HPc, HQc, HCc⟩
          · have hy := HY.out
            rw [if_neg kz] at hy
            injection hy with e1 e2
            subst e1 e2
            clear HY kz
            have q4 := HQc.out.cell 4 _ rfl
            have fq4 := HQc.out.free 4
            have hw5 : IntKind.i64.wrap (times + 1) = times + 1 := IntWalk.i64_in _ (by omega)
            go_upto_region 14 with fail
            have HPe := Lib.hid (HPc.out.frame ((Chg.refl [p] wc).setCell (p := ⟨p, 4, none⟩) (by simp) (.int .i64 (times + 1))) (by simpa using pb) (by simpa using pg))
            have HQe := HQc.out.set 4 (.int .i64 (times + 1))
            have HCe := Lib.hid (HCc.out.setCell (p := ⟨p, 4, none⟩) (by dsimp only; omega) (.int .i64 (times + 1)))
            clear q4 fq4 HPc HQc HCc
            generalize wc.setCell ⟨p, 4, none⟩ (.int .i64 (times + 1)) = wd at *
            have HQf : Hid (Blk wd p [.bool sick, .bool false, .int .i64 til, .int .i64 (row + 1), .int .i64 (times + 1)] 79) := Lib.hid HQe
            clear HQe
            have q4 := HQf.out.cell 4 _ rfl
            have c1 := HPe.out.num.cell 1 _ rfl
            have hm1 : base * (times + 1) ≤ 1000000 * 6000000000001 := Int.mul_le_mul g6 (by omega) (by omega) (by omega)
            have hm0 : 0 ≤ base * (times + 1) := Int.mul_nonneg (by omega) (by omega)
            have hw4 : IntKind.i64.wrap (base * (times + 1)) = base * (times + 1) := IntWalk.i64_in _ (by omega)
            go_quiet (fail)
            have HPg := Lib.hid (HPe.out.frame ((Chg.refl [] wd).drewN nq) (by simp) (by simp))
            have HQg := Lib.hid (HQf.out.drewN nq)
            have HCg := Lib.hid (HCe.out.drewN nq)
            clear q4 c1 HPe HQf HCe
            generalize wd.drewN nq = we at *
            have c2 := HPg.out.num.cell 2 _ rfl
            have c4 := HPg.out.num.cell 4 _ rfl
            have q1 := HQg.out.cell 1 _ rfl
            have q2 := HQg.out.cell 2 _ rfl
            have q3 := HQg.out.cell 3 _ rfl
            have fq1 := HQg.out.free 1
            have fq2 := HQg.out.free 2
            have fq3 := HQg.out.free 3
            have hd : (long < base * (times + 1) ∧ min long (base * (times + 1)) = long) ∨ (base * (times + 1) ≤ long ∧ min long (base * (times + 1)) = base * (times + 1)) := by omega
            rcases hd with ⟨km, hd⟩ | ⟨km, hd⟩
            all_goals
              have HD := Lib.hid hd
              clear hd
              go_wp2_with (first | (go_at_call 47; (with_reducible refine (rlater_any L _ hl0 hl1 (by omega) (by omega) _).mono ?_); rintro e w' ⟨rfl, rfl⟩))
              go_meet
              rw [HD.out]
              refine ⟨?_, ((HQg.out.set 1 (.bool true)).set 3 (.int .i64 0)).set 2 _, ?_⟩
              · exact ((HPg.out.frame ((Chg.refl [p] we).setCell (p := ⟨p, 1, none⟩) (by simp) _) (by simpa using pb) (by simpa using pg)).frame ((Chg.refl [p] _).setCell (p := ⟨p, 3, none⟩) (by simp) _) (by simpa using pb) (by simpa using pg)).frame ((Chg.refl [p] _).setCell (p := ⟨p, 2, none⟩) (by simp) _) (by simpa using pb) (by simpa using pg)
              · exact ((HCg.out.setCell (p := ⟨p, 1, none⟩) (by dsimp only; omega) _).setCell (p := ⟨p, 3, none⟩) (by dsimp only; omega) _).setCell (p := ⟨p, 2, none⟩) (by dsimp only; omega) _
        case rest =>
          obtain ⟨HPd, HQd, HCd⟩ := hcut
          obtain ⟨ys, yo, yt, yr, yn⟩ := y
          have c5 := HPd.out.num.cell 5 _ rfl
          rw [hll] at c5
          have q0 := HQd.out.cell 0 _ rfl
          have q1 := HQd.out.cell 1 _ rfl
          have q2 := HQd.out.cell 2 _ rfl
          have q3 := HQd.out.cell 3 _ rfl
          have q4 := HQd.out.cell 4 _ rfl
          dsimp only at q0 q1 q2 q3 q4
          have f0 := HPd.out.mayset (i * 5)
          have f1 := HPd.out.mayset (i * 5 + 1)
          have f2 := HPd.out.mayset (i * 5 + 2)
          have f3 := HPd.out.mayset (i * 5 + 3)
          have f4 := HPd.out.mayset (i * 5 + 4)
          obtain ⟨d0, d1, d2, d3, d4⟩ := HPd.out.host HX.out
          dsimp only at d0 d1 d2 d3 d4
          clear HY
          go_upto_region 20 with fail
          go_still_tail 7, (by kernel_rfl)
          change wpList _ _ _ _ _ wc.drew
          have HPe := Lib.hid (HPd.out.frame ((Chg.refl [] wc).drew) (by simp) (by simp))
          have HCe := Lib.hid HCd.out.drew
          clear c5 q0 q1 q2 q3 q4 f0 f1 f2 f3 f4 d0 d1 d2 d3 d4 HPd HQd HCd
          generalize wc.drew = wd at *
          have f0 := HPe.out.mayset (i * 5)
          have f1 := HPe.out.mayset (i * 5 + 1)
          have f2 := HPe.out.mayset (i * 5 + 2)
          have f3 := HPe.out.mayset (i * 5 + 3)
          have f4 := HPe.out.mayset (i * 5 + 4)
          obtain ⟨d0, d1, d2, d3, d4⟩ := HPe.out.host HX.out
          dsimp only at d0 d1 d2 d3 d4
          go_wp2
          go_ret2
          refine ⟨rfl, ?_, ?_⟩
          · have hi' : i < hs'.length := by rw [hll]; exact hi
            have hv := HPe.out.put HX.out 0 (.bool ys) ⟨ys, false, til, row, times⟩ (by omega) rfl
            rw [Nat.add_zero] at hv
            exact (((hv.again hi' 1 (.bool yo) ⟨ys, yo, til, row, times⟩ (by omega) rfl).again hi' 2 (.int .i64 yt) ⟨ys, yo, yt, row, times⟩ (by omega) rfl).again hi' 3 (.int .i64 yr) ⟨ys, yo, yt, yr, times⟩ (by omega) rfl).again hi' 4 (.int .i64 yn) ⟨ys, yo, yt, yr, yn⟩ (by omega) rfl
          · exact ((((HCe.out.setCell (by simp) _).setCell (by simp) _).setCell (by simp) _).setCell (by simp) _).setCell (by simp) _
    · rw [if_pos rfl] at hy
      injection hy with e1 e2
      subst e1 e2
      have c5 := HP.out.num.cell 5 _ rfl
      rw [hll] at c5
      have f3 := HP.out.mayset (i * 5 + 3)
      obtain ⟨d0, d1, d2, d3, d4⟩ := HP.out.host HX.out
      dsimp only at d0 d1 d2 d3 d4
      have HV := Lib.hid (HP.out.put HX.out 3 (.int .i64 0) ⟨sick, false, til, 0, times⟩ (by omega) rfl)
      go_wp2_with fail
      go_ret2
      exact ⟨rfl, HV.out, HPC.out.setCell (by simp) _⟩
  · rw [if_pos rfl] at hy
    injection hy with e1 e2
    subst e1 e2
    go_wp2_with fail
    go_ret2
    exact ⟨rfl, by rw [set_same HX.out]; exact HP.out, HPC.out⟩
end Go.Proofs.Yteaepadamhmknaa
