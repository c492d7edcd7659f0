/- The walk of BucketRate. -/
import Derived.Test.YtaknohobpapmeaaSA
namespace Go.Proofs.Ytaknohobpapmeaa
open Go.RowKit
set_option linter.unusedVariables false
theorem info3 : (Try.prog.info? 3).map (fun i => (i.zero, i.size, i.bytes)) = some (some (.int .i64 0), 1, 8) := by kernel_rfl
set_option maxHeartbeats 8000000 in
set_option maxRecDepth 100000 in
theorem bucketRate_walk (w : World) (r p u t : Int) (wr : (Lit.int .i64 r).wf = true) (wp : (Lit.int .i64 p).wf = true) (wu : (Lit.int .i64 u).wf = true) (wt : (Lit.int .i64 t).wf = true)
    (a : Option Addr) (n cap : Nat) (zs : List Int) (hr : n * 8 ≤ 140737488351232) (hn : n ≤ 9223372036854775807) (hwf : ∀ n ∈ zs, (Lit.int .i64 n).wf = true) (hs : Ints w .i64 a n zs) :
    Calls Try.prog 4 #[.agg #[.int .i64 r, .int .i64 p, .int .i64 u, .int .i64 t], .slice a n cap] w fun e w' => e = .returned (.bool true) ∧ Below w.heap.size w w' := by
  have HS := Lib.hid hs
  have HW := Lib.hid hwf
  clear hs hwf wr wp wu wt
  by_cases hg : Good r p u 0
  · obtain ⟨i0, hi, hz0, hz1, hz2⟩ := info_parts info3
    have HI := Lib.hid (And.intro hi (And.intro hz0 (And.intro hz1 hz2)))
    clear hi hz0 hz1 hz2
    go_enter Try.func4, Try.ntmps4
    go_wp2_with fail
    refine (new_ok r p u 0 _ hg).mono ?_
    rintro e w1 ⟨rfl, H1⟩
    have hgn := good_num hg
    have HFUL := Lib.hid (show u * p = u * p from rfl)
    generalize hful : u * p = f at *
    have hsz : (w.alloc (.cells #[.int .i64 r, .int .i64 p, .int .i64 u, .int .i64 t] 23)).heap.size = w.heap.size + 1 := by simp
    have HN := Lib.hid (show RSt (w.alloc (.cells #[.int .i64 r, .int .i64 p, .int .i64 u, .int .i64 t] 23)) (w.alloc (.cells #[.int .i64 r, .int .i64 p, .int .i64 u, .int .i64 t] 23)).heap.size r p f f 0 (.slice none 0 0) [] w1 from
      ⟨H1.out.1, Own.nil _ _, by simp [Value.ownBlock], Nat.le_refl _, H1.out.2⟩)
    rw [hsz] at HN
    have HFU := Lib.hid hful
    have HNUM := Lib.hid hgn.num
    have u0 := hgn.u0
    have u1 := hgn.u1
    have r0 := hgn.num.r0
    have r1 := hgn.num.r1
    have p0 := hgn.num.p0
    have p1 := hgn.num.p1
    have HFA := Lib.hid ((Chg.refl [] w).alloc (.cells #[.int .i64 r, .int .i64 p, .int .i64 u, .int .i64 t] 23))
    have HBA := Lib.hid ((Below.refl w.heap.size w).alloc (Nat.le_refl _) (.cells #[.int .i64 r, .int .i64 p, .int .i64 u, .int .i64 t] 23))
    have HSZ := Lib.hid hsz
    have HAB := Lib.hid (Blk.new w [.int .i64 r, .int .i64 p, .int .i64 u, .int .i64 t] 23)
    clear hgn H1 hsz hful hg HFUL
    go_wp2_with fail
    generalize hw0 : w.alloc (.cells #[.int .i64 r, .int .i64 p, .int .i64 u, .int .i64 t] 23) = wA at *
    clear hw0
    go_loopw [7, 8, 38] (fun c v i wr => ∃ (k : Nat) (l now : Int) (ys : List Int), k ≤ n ∧ i = .int .i64 k ∧ c = .int .i64 now ∧ 0 ≤ now ∧ now ≤ 10100000 ∧ ys.length ≤ k ∧ Hid (Num r p f l now) ∧ Hid (Taken r p f l now ys) ∧ Hid (RSt wA (w.heap.size + 1) r p f l now v ys wr)) (fun _ _ i _ => n - (intOf i).toNat)
    case atStart => exact ⟨0, f, 0, [], by omega, rfl, rfl, by omega, by omega, by simp, HNUM, Lib.hid (Taken.nil _ _ _ _ _), HN⟩
    case round =>
      clear HN HNUM
      obtain ⟨k, l, now, ys, hk, rfl, rfl, n0, n1, lys, HM, HTK, HT⟩ := hrel
      by_cases hlt : k < n
      · obtain ⟨x, rfl, hx⟩ := (HS.out.chg (HFA.out.trans HT.out.chg (by simp)) (by simp)).2 (by omega)
        have hcell := hx k hlt
        clear hx
        have hz := wfI (HW.out (zs.getD k 0) (by rw [List.getD_eq_getElem?_getD, List.getElem?_eq_getElem (by have := HS.out.1; omega)]; simp))
        generalize zs.getD k 0 = d at *
        go_upto_region 9 with fail
        go_cut [51] (fun s wx => ∃ bb : Bool, s = .bool bb ∧ Hid (bb = true → 0 ≤ d ∧ d ≤ 100000 ∧ now < 10000000) ∧ wr = wx)
        case first =>
          by_cases e1 : 0 ≤ d
          · by_cases e2 : d ≤ 100000
            · by_cases e3 : now < 10000000
              · go_wp2_with fail
                go_meet
                exact ⟨true, by simp [*], Lib.hid (fun _ => ⟨e1, e2, e3⟩), rfl⟩
              · go_wp2_with fail
                go_meet
                exact ⟨false, by simp [*], Lib.hid (fun h => Bool.noConfusion h), rfl⟩
            · go_wp2_with fail
              go_meet
              exact ⟨false, by simp [*], Lib.hid (fun h => Bool.noConfusion h), rfl⟩
          · go_wp2_with fail
            go_meet
            exact ⟨false, by simp [*], Lib.hid (fun h => Bool.noConfusion h), rfl⟩
        case rest =>
        obtain ⟨bb, rfl, hbb, rfl⟩ := hcut
        go_upto_if 51 with fail
        go_cut [7] (fun s7 wx => ∃ n2 : Int, s7 = .int .i64 n2 ∧ now ≤ n2 ∧ n2 ≤ 10100000 ∧ wr = wx)
        case first =>
          cases bb
          · go_wp2_with fail
            go_meet
            exact ⟨now, rfl, by omega, n1, rfl⟩
          · obtain ⟨e1, e2, e3⟩ := hbb.out rfl
            go_wp2_with fail
            go_meet
            exact ⟨now + d, rfl, by omega, by omega, rfl⟩
        case rest =>
          obtain ⟨n2, rfl, m0, m1, rfl⟩ := hcut
          clear hbb hz
          have hA : brA now n2 = n2 := by unfold brA; split <;> omega
          obtain ⟨L, hL⟩ : ∃ L, brL r f l now n2 = L := ⟨_, rfl⟩
          have hM2 := HM.out.bring (now := n2) (by omega)
          have hTK := HTK.out.bring m0 (brL_le r f l now n2 r0 m0)
          rw [hL, hA] at hM2
          rw [hL] at hTK
          have HM2 := Lib.hid hM2
          have HTK2 := Lib.hid hTK
          have HL := Lib.hid hL
          have HA := Lib.hid hA
          clear hL hA hM2 hTK
          obtain ⟨B, cp, rfl⟩ := HT.out.own.form
          by_cases hlv : p ≤ L
          · have HM3 := Lib.hid (HM2.out.less hlv)
            have HTK3 := Lib.hid (HTK2.out.push (by omega) HM2.out.l1 hlv)
            have HV := Lib.hid hlv
            clear hlv
            go_wp2_with fail
            (refine (HT.out.call fun hb => take_yes _ r p f l now n2 L n2 _ hb HM.out (by omega) (by omega) HL.out HA.out HV.out).mono ?_)
            clear HT
            rintro e w3 ⟨rfl, HT⟩
            go_wp2_with (at_builtin; refine wpList_append_own_at _ rfl _ _ 24 rfl 0 3 i0 (.int .i64 0) 1 8 Try.underlying24 HI.out.1 HI.out.2.1 HI.out.2.2.1 HI.out.2.2.2 rfl (by decide) (.slice B ys.length cp) ys.length (ys.map (Value.int .i64)) rfl (HT.out.own.alloc _) ⟨w3.heap.size, 0, none⟩ 1 1 [.int .i64 n2] rfl rfl (cell_one_new _ _ _) (by simp [Value.oneCell']) (by unfold maxLen; omega) (by omega) (Nat.zero_le _) ?_; intro v4 w4 hown hgrow _ hat; have HX := HT.out.push hown hgrow hat; clear hown hgrow hat)
            go_roundw
            case rel => exact ⟨k + 1, L - p, n2, ys ++ [n2], by omega, by go_num, rfl, by omega, m1, (by simp <;> omega), HM3, HTK3, HX⟩
            case measure => simp [intOf]; omega
          · have HV := Lib.hid (show L < p by omega)
            clear hlv
            go_wp2_with fail
            (refine (HT.out.call fun hb => take_no _ r p f l now n2 L n2 _ hb HM.out (by omega) (by omega) HL.out HA.out HV.out).mono ?_)
            clear HT
            rintro e w3 ⟨rfl, HT⟩
            go_wp2_with fail
            go_roundw
            case rel => exact ⟨k + 1, L, n2, ys, by omega, by go_num, rfl, by omega, m1, by omega, HM2, HTK2, HT⟩
            case measure => simp [intOf]; omega
      · obtain ⟨B, cp, rfl⟩ := HT.out.own.form
        have c0 := (HAB.out.chg HT.out.chg (by simp)).cell 0 _ rfl
        have c1 := (HAB.out.chg HT.out.chg (by simp)).cell 1 _ rfl
        have c2 := (HAB.out.chg HT.out.chg (by simp)).cell 2 _ rfl
        go_wp2_with fail
        have hyl : ys.length ≤ 17592186044404 := by omega
        go_loopw [71] (fun i wx => ∃ (j q : Nat), j ≤ ys.length ∧ i = .int .i64 j ∧ Hid (wr.drewN q = wx)) (fun i _ => ys.length - (intOf i).toNat)
        case atStart => exact ⟨0, 0, by omega, rfl, Lib.hid rfl⟩
        case round =>
          obtain ⟨j, q, hj, rfl, hwx⟩ := hrel
          obtain rfl := hwx.out
          clear hwx
          by_cases hjt : j < ys.length
          · go_wp2_with fail
            go_loopw [14] (fun i wx => ∃ (m q : Nat), j ≤ m ∧ m ≤ ys.length ∧ i = .int .i64 m ∧ Hid (wr.drewN q = wx)) (fun i _ => ys.length - (intOf i).toNat)
            case atStart => exact ⟨j, q, by omega, by omega, rfl, Lib.hid rfl⟩
            case round =>
              obtain ⟨m, q, hjm, hm, rfl, hwx⟩ := hrel
              obtain rfl := hwx.out
              clear hwx
              by_cases hin : (m : Int) < (ys.length : Int) ∧ (m : Int) < (j : Int) + 200
              · obtain ⟨hin1, hin2⟩ := hin
                obtain ⟨g, cp2, e, hc⟩ := HT.out.own.cell (i := m) (by omega)
                injection e with e1 e2 e3
                subst e1 e3
                clear e2
                have hcm : wr.cell? ⟨g, m, none⟩ = some (.int .i64 (ys.getD m 0)) := hc m (by omega)
                have hcj : wr.cell? ⟨g, j, none⟩ = some (.int .i64 (ys.getD j 0)) := hc j (by omega)
                clear hc
                have hask := HTK.out.asks p0 HFU.out j m hjm (by omega)
                have x1 := HTK.out.up j m hjm (by omega)
                have x2 := HTK.out.hi m (by omega)
                have x3 := HTK.out.lo j (by omega)
                generalize ys.getD m 0 = ym at *
                generalize ys.getD j 0 = yj at *
                have hm0 : 0 ≤ r * (ym - yj) := Int.mul_nonneg r0 (by omega)
                have hm1 : r * (ym - yj) ≤ 1000000 * 10100000 := Int.mul_le_mul r1 (by omega) (by omega) (by omega)
                have hq0 : 0 ≤ r * (ym - yj) / p := Int.ediv_nonneg hm0 (by omega)
                have hq1 : r * (ym - yj) / p ≤ r * (ym - yj) := Int.ediv_le_self _ hm0
                have y1 : IntKind.i64.wrap (ym - yj) = ym - yj := IntWalk.i64_in _ (by omega)
                have y2 : IntKind.i64.wrap (r * (ym - yj)) = r * (ym - yj) := IntWalk.i64_in _ (by omega)
                have y3 : IntKind.i64.wrap (u + r * (ym - yj) / p) = u + r * (ym - yj) / p := IntWalk.i64_in _ (by omega)
                have y4 : IntKind.i64.wrap (u + r * (ym - yj) / p + 1) = u + r * (ym - yj) / p + 1 := IntWalk.i64_in _ (by omega)
                have y5 : IntKind.i64.wrap ((m : Int) - j) = (m : Int) - j := IntWalk.i64_in _ (by omega)
                have y6 : IntKind.i64.wrap ((m : Int) - j + 1) = (m : Int) - j + 1 := IntWalk.i64_in _ (by omega)
                have hpz : (p == 0) = false := beq_eq_false_iff_ne.2 (by omega)
                go_wp2_with fail
                go_quiet (fail)
                go_wp2_with fail
                go_roundw
                case rel => exact ⟨m + 1, q + nq, by omega, by omega, by go_num, Lib.hid rfl⟩
                case measure => simp [intOf]; omega
              · rcases (show ¬ ((m : Int) < (ys.length : Int)) ∨ ((m : Int) < (ys.length : Int) ∧ ¬ ((m : Int) < (j : Int) + 200)) by omega) with hx | ⟨hx, hx2⟩
                all_goals
                  clear hin
                  go_wp2_with fail
                  go_roundw
                  case rel => exact ⟨j + 1, q, by omega, by go_num, Lib.hid rfl⟩
                  case measure => simp [intOf]; omega
          · go_wp2_with (first | (go_at_call 11; (with_reducible refine (bspeaks _).mono ?_); rintro e w' ⟨rfl, hbel⟩))
            go_ret
            exact ⟨rfl, HBA.out.trans ((HT.out.chg.drewN q).below.trans (hbel.mono (HT.out.chg.drewN q).size) |>.mono (by have := HSZ.out; omega))⟩
  · have hb1 := Lib.hid (fun w => new_bad r p u 0 hg w)
    clear hg
    go_enter Try.func4, Try.ntmps4
    go_wp2_with (first | (go_at_call 9; (with_reducible refine (hb1.out _).mono ?_); rintro e w' ⟨rfl, rfl⟩) | (go_at_call 11; (with_reducible refine (bspeaks _).mono ?_); rintro e w' ⟨rfl, hbel⟩))
    go_ret
    exact ⟨rfl, alloc_below _ _ hbel⟩
end Go.Proofs.Ytaknohobpapmeaa
