/- The walk of BudgetWindow. -/
import Derived.Test.YtgaggimkkoopfaaC7
namespace Go.Proofs.Ytgaggimkkoopfaa
open Go.RowKit
set_option linter.unusedVariables false
set_option maxHeartbeats 8000000 in
set_option maxRecDepth 100000 in
theorem budgetWindow_walk (w : World) (p m win : Int) (wp : (Lit.int .i64 p).wf = true) (wm : (Lit.int .i64 m).wf = true) (ww : (Lit.int .i64 win).wf = true) (a : Option Addr) (n cap : Nat) (f : Nat → Nat → Int) (hf : Flat w a n 2 f) (hr : n * 16 ≤ 140737488351232) (hn : n ≤ 9223372036854775807) :
    Calls Try.prog 10 #[.agg #[.int .i64 p, .int .i64 m, .int .i64 win], .slice a n cap] w fun e w' => e = .returned (.bool true) ∧ Below w.heap.size w w' := by
  have HF := Lib.hid hf
  clear hf hr wp wm ww
  by_cases h2 : 2000 < n
  · have h3 : (2000 : Int) < (n : Int) := by omega
    go_enter Try.func10, Try.ntmps10
    go_wp2_with (first | (go_at_call 25; (with_reducible refine (bspeaks _).mono ?_); rintro e w' ⟨rfl, hbel⟩))
    go_ret
    exact ⟨rfl, alloc_below _ _ hbel⟩
  have h3 : ¬ (2000 : Int) < (n : Int) := by omega
  have h4 : (n : Int) ≤ 2000 := by omega
  clear h2 h3
  by_cases hg : Good p m win
  · obtain ⟨i0, hi, hz0, hz1, hz2⟩ := info_parts info3
    have HI := Lib.hid (And.intro hi (And.intro hz0 (And.intro hz1 hz2)))
    clear hi hz0 hz1 hz2
    go_enter Try.func10, Try.ntmps10
    go_wp2_with fail
    refine (bnew_ok p m win _ hg).mono ?_
    rintro e w1 ⟨rfl, h1, hc1⟩
    have HN := Lib.hid (show WS (w.alloc (.cells #[.int .i64 p, .int .i64 m, .int .i64 win] 42)) (w.heap.size + 1) p m win 0 (.slice none 0 0) (.slice none 0 0) [] [] 0 w1 from by
      have e1 : (w.alloc (.cells #[.int .i64 p, .int .i64 m, .int .i64 win] 42)).heap.size = w.heap.size + 1 := by simp
      rw [e1] at h1
      exact ⟨0, [], [], _, h1, ⟨World.ownsRow_nil _ _ _ _, by simp [Value.ownBlock]⟩, ⟨World.ownsRow_nil _ _ _ _, by simp [Value.ownBlock]⟩, .inl rfl, by simp, hc1, PR.nil win, PR.nil win, by omega, by omega, by simp, by simp⟩)
    clear h1 hc1
    have HA0 := Lib.hid (Blk.new w [.int .i64 p, .int .i64 m, .int .i64 win] 42)
    have HBA := Lib.hid ((Below.refl w.heap.size w).alloc (Nat.le_refl _) (.cells #[.int .i64 p, .int .i64 m, .int .i64 win] 42))
    have HFA := Lib.hid ((Chg.refl [] w).alloc (.cells #[.int .i64 p, .int .i64 m, .int .i64 win] 42))
    have HSZ := Lib.hid (show (w.alloc (.cells #[.int .i64 p, .int .i64 m, .int .i64 win] 42)).heap.size = w.heap.size + 1 by simp)
    have HGD := Lib.hid hg
    clear hg
    have hn2 : n ≤ 2000 := by omega
    go_wp2_with fail
    generalize hw0 : w.alloc (.cells #[.int .i64 p, .int .i64 m, .int .i64 win] 42) = wA at *
    clear hw0
    go_loopw [7, 8, 9, 47] (fun s7 vq vt i wr => ∃ (k : Nat) (now : Int) (zq zt : List Int), k ≤ n ∧ i = .int .i64 k ∧ s7 = .int .i64 now ∧ 0 ≤ now ∧ now ≤ 2305843009213693952 ∧ Hid (WS wA (w.heap.size + 1) p m win now vq vt zq zt k wr)) (fun _ _ _ i _ => n - (intOf i).toNat)
    case atStart => exact ⟨0, 0, [], [], by omega, rfl, rfl, by omega, by omega, HN⟩
    case round =>
      clear HN
      obtain ⟨k, now, zq, zt, hk, rfl, rfl, n0, n1, HB⟩ := hrel
      by_cases hlt : k < n
      · obtain ⟨b, o, rfl, hbl, hx⟩ := HF.out.2 (by omega)
        have f0 := hx k 0 hlt (by omega)
        have f1 := hx k 1 hlt (by omega)
        have v0 := wfI (HF.out.1 k 0 hlt (by omega))
        have v1 := wfI (HF.out.1 k 1 hlt (by omega))
        clear hx
        generalize f k 0 = kd at *
        generalize f k 1 = mo at *
        have g0 : wr.cell? ⟨b, o + k * 2, none⟩ = some (.int .i64 kd) := HB.out.chg.cell (HFA.out.cell f0 (by simp)) (by simp)
        have g1 : wr.cell? ⟨b, o + k * 2 + 1, none⟩ = some (.int .i64 mo) := HB.out.chg.cell (HFA.out.cell f1 (by simp)) (by simp)
        clear f0 f1
        go_upto_region 11 with fail
        go_cut [59] (fun s59 wx => ∃ bb : Bool, s59 = .bool bb ∧ Hid (bb = true → now < mo ∧ mo ≤ 2305843009213693952) ∧ wx = wr.alloc (.cells #[.int .i64 kd, .int .i64 mo] 51))
        case first =>
          by_cases c1 : now < mo
          · by_cases c2 : mo ≤ 2305843009213693952
            · go_wp2_with fail
              go_meet
              exact ⟨true, by simp [*], Lib.hid (fun _ => ⟨c1, c2⟩), rfl⟩
            · go_wp2_with fail
              go_meet
              exact ⟨false, by simp [*], Lib.hid (fun h => Bool.noConfusion h), rfl⟩
          · go_wp2_with fail
            go_meet
            exact ⟨false, by simp [*], Lib.hid (fun h => Bool.noConfusion h), rfl⟩
        case rest =>
        obtain ⟨bb, rfl, hbb, rfl⟩ := hcut
        go_upto_if 59 with fail
        go_cut [7] (fun s7 wx => ∃ n2 : Int, s7 = .int .i64 n2 ∧ now ≤ n2 ∧ n2 ≤ 2305843009213693952 ∧ wx = wr.alloc (.cells #[.int .i64 kd, .int .i64 mo] 51))
        case first =>
          cases bb
          · go_wp2_with fail
            go_meet
            exact ⟨now, rfl, by omega, n1, rfl⟩
          · obtain ⟨c1, c2⟩ := hbb.out rfl
            go_wp2_with fail
            go_meet
            exact ⟨mo, rfl, by omega, c2, rfl⟩
        case rest =>
          obtain ⟨n2, rfl, m0, m1, rfl⟩ := hcut
          clear hbb
          replace HB := Lib.hid ((HB.out.later m0).still ((Chg.refl [] wr).alloc (.cells #[.int .i64 kd, .int .i64 mo] 51)))
          have g2 : (wr.alloc (.cells #[.int .i64 kd, .int .i64 mo] 51)).cell? ⟨wr.heap.size, 0, none⟩ = some (.int .i64 kd) := (Blk.new wr [.int .i64 kd, .int .i64 mo] 51).cell 0 _ rfl
          have n3 : 0 ≤ n2 := by omega
          clear g0 g1 v1
          clear n0 n1 m0
          generalize wr.alloc (.cells #[.int .i64 kd, .int .i64 mo] 51) = wb at *
          obtain ⟨⟨A, cp1, rfl⟩, ⟨B, cp2, rfl⟩, lq, lt⟩ := HB.out.rows
          rcases (show kd = 0 ∨ ((kd == 0) = false) by simp; omega) with rfl | k0
          · by_cases hz : zq.length < 1000
            · have hz2 : (zq.length : Int) < 1000 := by omega
              go_wp2_with fail
              refine (HB.out.mid true false (by omega) HGD.out (fun last q t q1 t1 F hb N e1 e2 l1 l2 => mov_admit hb N e1 e2 (by have := cnt_le zq (n2 - win); omega))).mono ?_
              rintro e w3 ⟨rfl, HM⟩
              go_wp2_with (at_builtin; refine wpList_append_own_at _ rfl _ _ 22 rfl 0 3 i0 (.int .i64 0) 1 8 Try.underlying22 HI.out.1 HI.out.2.1 HI.out.2.2.1 HI.out.2.2.2 rfl (by decide) (.slice A zq.length cp1) zq.length (zq.map (Value.int .i64)) rfl (HM.out.rows.2.2.1.alloc _) ⟨w3.heap.size, 0, none⟩ 1 1 [.int .i64 n2] rfl rfl (cell_one_new _ _ _) (by simp [Value.oneCell']) (by unfold maxLen; omega) (by omega) (Nat.zero_le _) ?_; intro v4 w4 hown hgrow _ hat; have HW := HM.out.pushq HGD.out.2.2.2.2.1 hown hgrow hat; clear hown hgrow hat)
              go_roundw
              case rel => exact ⟨k + 1, n2, zq ++ [n2], zt, by omega, by go_num, rfl, by omega, m1, HW⟩
              case measure => simp [intOf]; omega
            · have hz2 : ¬ (zq.length : Int) < 1000 := by omega
              go_wp2_with fail
              go_roundw
              case rel => exact ⟨k + 1, n2, zq, zt, by omega, by go_num, rfl, by omega, m1, HB.out.up (by omega)⟩
              case measure => simp [intOf]; omega
          · have hcq := cnt_le zq (n2 - win)
            have hct := cnt_le zt (n2 - win)
            obtain ⟨y, HY⟩ : ∃ y, Hid (rcanB p m (cnt zq (n2 - win)) (cnt zt (n2 - win)) = y) := ⟨_, rfl⟩
            go_wp2_with fail
            refine (HB.out.mid false y (by omega) HGD.out (fun last q t q1 t1 F hb N e1 e2 l1 l2 => mov_allow hb N e1 e2 (by omega) (by omega) y (by rw [l1, l2, can_rcan]; exact HY.out))).mono ?_
            rintro e w3 ⟨rfl, HM⟩
            have ca2 : w3.cell? ⟨w.heap.size, 2, none⟩ = some (.int .i64 win) := (HA0.out.chg HM.out.rows.2.2.2.2 (by simp)).cell 2 _ rfl
            have ca1 : w3.cell? ⟨w.heap.size, 1, none⟩ = some (.int .i64 m) := (HA0.out.chg HM.out.rows.2.2.2.2 (by simp)).cell 1 _ rfl
            have ca0 : w3.cell? ⟨w.heap.size, 0, none⟩ = some (.int .i64 p) := (HA0.out.chg HM.out.rows.2.2.2.2 (by simp)).cell 0 _ rfl
            have w0 : 1 ≤ win := HGD.out.2.2.2.2.1
            have w1' : win ≤ 1000000 := HGD.out.2.2.2.2.2
            obtain ⟨A', cap', e', g1, g2, g3, g4⟩ := HM.out.rows.1
            injection e' with e1' e2' e3'
            subst e1' e3'
            clear e2'
            have H4a := Lib.hid g4
            have H3a := Lib.hid g3
            clear g4 g3
            have hzla : zq.length ≤ 9223372036854775000 := by omega
            go_wp2_with fail
            go_loopw [14, 86] (fun n i wr => ∃ (j : Nat), j ≤ zq.length ∧ i = .int .i64 j ∧ n = .int .i64 ((cnt (zq.take j) (n2 - win) : Nat) + 0 : Int) ∧ w3 = wr) (fun _ i _ => zq.length - (intOf i).toNat)
            case atStart => exact ⟨0, by omega, rfl, rfl, rfl⟩
            case round =>
              obtain ⟨j, hj, rfl, rfl, rfl⟩ := hrel
              have hcl := cnt_le (zq.take j) (n2 - win)
              have hcl2 : (zq.take j).length ≤ j := List.length_take_le _ _
              by_cases hjt : j < zq.length
              · obtain ⟨x, rfl⟩ : ∃ x, A = some x := by
                  cases A with
                  | none => have := H3a.out rfl; omega
                  | some x => exact ⟨x, rfl⟩
                obtain ⟨g, oo, sp⟩ := x
                obtain ⟨hs, hc⟩ := H4a.out _ rfl
                obtain rfl : sp = none := hs
                have hcell : w3.cell? ⟨g, oo + j, none⟩ = some (.int .i64 (zq.getD j 0)) := (hc (by intro e; subst e; simp at hjt)).2 j hjt
                clear hc
                have HS := Lib.hid (show cnt (zq.take (j + 1)) (n2 - win) = cnt (zq.take j) (n2 - win) + if n2 - win < zq.getD j 0 then 1 else 0 by rw [takeS zq j hjt, cnt_snoc])
                have hcb : cnt (zq.take j) (n2 - win) < 9223372036854775000 := by omega
                clear hcl hcl2
                generalize cnt (zq.take j) (n2 - win) = c at *
                generalize zq.getD j 0 = tt at *
                have hwr : IntKind.i64.wrap (n2 - win) = n2 - win := IntWalk.i64_in _ (by omega)
                by_cases ht : n2 - win < tt
                · have HQ := Lib.hid (show cnt (zq.take (j + 1)) (n2 - win) = c + 1 by rw [HS.out, if_pos ht])
                  clear HS
                  go_wp2_with fail
                  go_roundw
                  case rel => exact ⟨j + 1, by omega, by go_num, by rw [HQ.out]; go_num, by trivial⟩
                  case measure => simp [intOf]; omega
                · have HQ := Lib.hid (show cnt (zq.take (j + 1)) (n2 - win) = c by rw [HS.out, if_neg ht]; rfl)
                  clear HS
                  go_wp2_with fail
                  go_roundw
                  case rel => exact ⟨j + 1, by omega, by go_num, by rw [HQ.out], by trivial⟩
                  case measure => simp [intOf]; omega
              · have e : j = zq.length := by omega
                have HQ := Lib.hid (show zq.take j = zq by rw [e]; simp)
                clear hcl hcl2
                rw [HQ.out]
                go_wp2_with fail
                obtain ⟨A', cap', e', g1, g2, g3, g4⟩ := HM.out.rows.2.1
                injection e' with e1' e2' e3'
                subst e1' e3'
                clear e2'
                have H4b := Lib.hid g4
                have H3b := Lib.hid g3
                clear g4 g3
                have hzlb : zt.length ≤ 9223372036854775000 := by omega
                go_wp2_with fail
                go_loopw [17, 101] (fun n i wr => ∃ (j : Nat), j ≤ zt.length ∧ i = .int .i64 j ∧ n = .int .i64 ((cnt (zt.take j) (n2 - win) : Nat) + 1 : Int) ∧ w3 = wr) (fun _ i _ => zt.length - (intOf i).toNat)
                case atStart => exact ⟨0, by omega, rfl, rfl, rfl⟩
                case round =>
                  obtain ⟨j, hj, rfl, rfl, rfl⟩ := hrel
                  have hcl := cnt_le (zt.take j) (n2 - win)
                  have hcl2 : (zt.take j).length ≤ j := List.length_take_le _ _
                  by_cases hjt : j < zt.length
                  · obtain ⟨x, rfl⟩ : ∃ x, B = some x := by
                      cases B with
                      | none => have := H3b.out rfl; omega
                      | some x => exact ⟨x, rfl⟩
                    obtain ⟨g, oo, sp⟩ := x
                    obtain ⟨hs, hc⟩ := H4b.out _ rfl
                    obtain rfl : sp = none := hs
                    have hcell : w3.cell? ⟨g, oo + j, none⟩ = some (.int .i64 (zt.getD j 0)) := (hc (by intro e; subst e; simp at hjt)).2 j hjt
                    clear hc
                    have HS := Lib.hid (show cnt (zt.take (j + 1)) (n2 - win) = cnt (zt.take j) (n2 - win) + if n2 - win < zt.getD j 0 then 1 else 0 by rw [takeS zt j hjt, cnt_snoc])
                    have hcb : cnt (zt.take j) (n2 - win) < 9223372036854775000 := by omega
                    clear hcl hcl2
                    generalize cnt (zt.take j) (n2 - win) = c at *
                    generalize zt.getD j 0 = tt at *
                    have hwr : IntKind.i64.wrap (n2 - win) = n2 - win := IntWalk.i64_in _ (by omega)
                    by_cases ht : n2 - win < tt
                    · have HQ := Lib.hid (show cnt (zt.take (j + 1)) (n2 - win) = c + 1 by rw [HS.out, if_pos ht])
                      clear HS
                      go_wp2_with fail
                      go_roundw
                      case rel => exact ⟨j + 1, by omega, by go_num, by rw [HQ.out]; go_num, by trivial⟩
                      case measure => simp [intOf]; omega
                    · have HQ := Lib.hid (show cnt (zt.take (j + 1)) (n2 - win) = c by rw [HS.out, if_neg ht]; rfl)
                      clear HS
                      go_wp2_with fail
                      go_roundw
                      case rel => exact ⟨j + 1, by omega, by go_num, by rw [HQ.out], by trivial⟩
                      case measure => simp [intOf]; omega
                  · have e : j = zt.length := by omega
                    have HQ := Lib.hid (show zt.take j = zt by rw [e]; simp)
                    clear hcl hcl2
                    rw [HQ.out]
                    have hp0 : 0 ≤ p := HGD.out.1
                    have hp1 : p ≤ 100 := HGD.out.2.1
                    have hm0 : 0 ≤ m := HGD.out.2.2.1
                    have hm1 : m ≤ 1000 := HGD.out.2.2.2.1
                    clear hzla hzlb
                    generalize cnt zt (n2 - win) = D at *
                    generalize cnt zq (n2 - win) = C at *
                    have hpc0 : 0 ≤ p * (C : Int) := Int.mul_nonneg hp0 (by omega)
                    have hpc1 : p * (C : Int) ≤ 100 * 2000 := Int.mul_le_mul hp1 (by omega) (by omega) (by omega)
                    by_cases cA : (D : Int) + 1 ≤ m
                    · obtain rfl : true = y := by rw [← HY.out]; simp [rcanB, cA]
                      go_wp2_with (at_builtin; refine wpList_append_own_at _ rfl _ _ 22 rfl 0 3 i0 (.int .i64 0) 1 8 Try.underlying22 HI.out.1 HI.out.2.1 HI.out.2.2.1 HI.out.2.2.2 rfl (by decide) (.slice B zt.length cp2) zt.length (zt.map (Value.int .i64)) rfl (HM.out.rows.2.2.2.1.alloc _) ⟨w3.heap.size, 0, none⟩ 1 1 [.int .i64 n2] rfl rfl (cell_one_new _ _ _) (by simp [Value.oneCell']) (by unfold maxLen; omega) (by omega) (Nat.zero_le _) ?_; intro v4 w4 hown hgrow _ hat; have HW := HM.out.pusht HGD.out.2.2.2.2.1 hown hgrow hat; clear hown hgrow hat)
                      go_roundw
                      case rel => exact ⟨k + 1, n2, zq, zt ++ [n2], by omega, by go_num, rfl, by omega, m1, HW⟩
                      case measure => simp [intOf]; omega
                    · by_cases cB : 100 * ((D : Int) + 1) ≤ p * (C : Int)
                      · obtain rfl : true = y := by rw [← HY.out]; simp [rcanB]; omega
                        go_wp2_with (at_builtin; refine wpList_append_own_at _ rfl _ _ 22 rfl 0 3 i0 (.int .i64 0) 1 8 Try.underlying22 HI.out.1 HI.out.2.1 HI.out.2.2.1 HI.out.2.2.2 rfl (by decide) (.slice B zt.length cp2) zt.length (zt.map (Value.int .i64)) rfl (HM.out.rows.2.2.2.1.alloc _) ⟨w3.heap.size, 0, none⟩ 1 1 [.int .i64 n2] rfl rfl (cell_one_new _ _ _) (by simp [Value.oneCell']) (by unfold maxLen; omega) (by omega) (Nat.zero_le _) ?_; intro v4 w4 hown hgrow _ hat; have HW := HM.out.pusht HGD.out.2.2.2.2.1 hown hgrow hat; clear hown hgrow hat)
                        go_roundw
                        case rel => exact ⟨k + 1, n2, zq, zt ++ [n2], by omega, by go_num, rfl, by omega, m1, HW⟩
                        case measure => simp [intOf]; omega
                      · obtain rfl : false = y := by rw [← HY.out]; simp [rcanB]; omega
                        go_wp2_with fail
                        go_roundw
                        case rel => exact ⟨k + 1, n2, zq, zt, by omega, by go_num, rfl, by omega, m1, Lib.hid (HM.out.done.up (by omega))⟩
                        case measure => simp [intOf]; omega
      · go_wp2_with (first | (go_at_call 25; (with_reducible refine (bspeaks _).mono ?_); rintro e w' ⟨rfl, hbel⟩))
        go_ret
        exact ⟨rfl, HBA.out.trans ((HB.out.chg.below.trans (hbel.mono HB.out.chg.size)).mono (by have := HSZ.out; omega))⟩
  · have hb1 := Lib.hid (fun w => bnew_bad p m win w hg)
    clear hg
    go_enter Try.func10, Try.ntmps10
    go_wp2_with (first | (go_at_call 26; (with_reducible refine (hb1.out _).mono ?_); rintro e w' ⟨rfl, rfl⟩) | (go_at_call 25; (with_reducible refine (bspeaks _).mono ?_); rintro e w' ⟨rfl, hbel⟩))
    go_ret
    exact ⟨rfl, alloc_below _ _ hbel⟩
end Go.Proofs.Ytgaggimkkoopfaa
