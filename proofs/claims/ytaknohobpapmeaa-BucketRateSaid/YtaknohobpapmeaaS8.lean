/- The walk of BucketLooks: to look changes nothing. -/
import Derived.Test.YtaknohobpapmeaaS7
namespace Go.Proofs.Ytaknohobpapmeaa
open Go.RowKit
set_option linter.unusedVariables false
theorem lev_lev (r f l g h : Int) (hr : 0 ≤ r) (hh : 0 ≤ h) : lev r f (lev r f l g) h = lev r f l (g + h) := by
  have e : (g + h) * r = g * r + h * r := Int.add_mul _ _ _
  have m := Int.mul_nonneg hh hr
  unfold lev
  rw [e]
  split <;> split <;> split <;> omega
theorem br_again (r f l a now : Int) : brL r f (brL r f l a now) (brA a now) now = brL r f l a now ∧ brA (brA a now) now = brA a now := by
  unfold brL brA
  by_cases h : now ≤ a <;> simp [h]
theorem br_mid (r f l a mid now : Int) (hr : 0 ≤ r) (h1 : a ≤ mid) (h2 : mid ≤ now) (hl : l ≤ f) : brL r f (brL r f l a mid) (brA a mid) now = brL r f l a now ∧ brA (brA a mid) now = brA a now := by
  by_cases e1 : mid = a
  · subst e1
    have x1 : brL r f l mid mid = l := by unfold brL; simp
    have x2 : brA mid mid = mid := by unfold brA; simp
    rw [x1, x2]
    exact ⟨rfl, rfl⟩
  · have y1 : brL r f l a mid = lev r f l (mid - a) := by unfold brL; rw [if_neg (by omega)]
    have y2 : brA a mid = mid := by unfold brA; rw [if_neg (by omega)]
    rw [y1, y2]
    by_cases e2 : now = mid
    · subst e2
      constructor
      · rw [y1]; unfold brL; simp
      · rw [y2]; unfold brA; simp
    · have z1 : brL r f l a now = lev r f l (now - a) := by unfold brL; rw [if_neg (by omega)]
      have z2 : brL r f (lev r f l (mid - a)) mid now = lev r f (lev r f l (mid - a)) (now - mid) := by unfold brL; rw [if_neg (by omega)]
      rw [z1, z2, lev_lev _ _ _ _ _ hr (by omega)]
      constructor
      · congr 1; omega
      · unfold brA; rw [if_neg (by omega), if_neg (by omega)]
set_option maxHeartbeats 8000000 in
set_option maxRecDepth 100000 in
theorem bucketLooks_walk (w : World) (r p u t : Int) (wr : (Lit.int .i64 r).wf = true) (wp : (Lit.int .i64 p).wf = true) (wu : (Lit.int .i64 u).wf = true) (wt : (Lit.int .i64 t).wf = true)
    (a : Option Addr) (n cap : Nat) (zs : List Int) (hr : n * 8 ≤ 140737488351232) (hn : n ≤ 9223372036854775807) (hwf : ∀ n ∈ zs, (Lit.int .i64 n).wf = true) (hs : Ints w .i64 a n zs) :
    Calls Try.prog 6 #[.agg #[.int .i64 r, .int .i64 p, .int .i64 u, .int .i64 t], .slice a n cap] w fun e w' => e = .returned (.bool true) ∧ Below w.heap.size w w' := by
  have HS := Lib.hid hs
  have HW := Lib.hid hwf
  clear hs hwf wr wp wu wt
  by_cases hg : Good r p u t
  · go_enter Try.func6, Try.ntmps6
    go_wp2_with fail
    refine (new_ok r p u t _ hg).mono ?_
    rintro e w1 ⟨rfl, H1⟩
    have HA := Lib.hid ((Blk.new w [.int .i64 r, .int .i64 p, .int .i64 u, .int .i64 t] 23).chg H1.out.2 (by simp))
    have d0 := HA.out.cell 0 _ rfl
    have d1 := HA.out.cell 1 _ rfl
    have d2 := HA.out.cell 2 _ rfl
    have d3 := HA.out.cell 3 _ rfl
    go_wp2_with fail
    refine (new_ok r p u t _ hg).mono ?_
    rintro e w2 ⟨rfl, H2⟩
    have hgn := good_num hg
    generalize hful : u * p = f at *
    have hsz : (w.alloc (.cells #[.int .i64 r, .int .i64 p, .int .i64 u, .int .i64 t] 23)).heap.size = w.heap.size + 1 := by simp
    have HN := Lib.hid (show Duo (w.alloc (.cells #[.int .i64 r, .int .i64 p, .int .i64 u, .int .i64 t] 23)) (w.alloc (.cells #[.int .i64 r, .int .i64 p, .int .i64 u, .int .i64 t] 23)).heap.size w1.heap.size [.int .i64 r, .int .i64 p, .int .i64 f, .int .i64 f, .int .i64 t] 54 [.int .i64 r, .int .i64 p, .int .i64 f, .int .i64 f, .int .i64 t] 54 w2 from
      ⟨H1.out.1.chg H2.out.2 (by simp), H2.out.1, by have := H1.out.1.lt; omega, Nat.le_refl _, H1.out.2.size, H1.out.2.trans H2.out.2 (by simp)⟩)
    rw [hsz] at HN
    have HNUM := Lib.hid hgn.num
    have HFA := Lib.hid ((Chg.refl [] w).alloc (.cells #[.int .i64 r, .int .i64 p, .int .i64 u, .int .i64 t] 23))
    have HBA := Lib.hid ((Below.refl w.heap.size w).alloc (Nat.le_refl _) (.cells #[.int .i64 r, .int .i64 p, .int .i64 u, .int .i64 t] 23))
    have HSZ := Lib.hid hsz
    have d3' := (HA.out.chg H2.out.2 (by simp)).cell 3 _ rfl
    clear hgn d0 d1 d2 d3 HA H1 H2 hsz hful hg
    go_wp2_with fail
    clear d3'
    generalize hw0 : w.alloc (.cells #[.int .i64 r, .int .i64 p, .int .i64 u, .int .i64 t] 23) = wA at *
    clear hw0
    generalize w1.heap.size = b2 at *
    clear w1
    go_loopw [9, 72] (fun c i wr => ∃ (k : Nat) (l a : Int), k ≤ n ∧ i = .int .i64 k ∧ c = .int .i64 a ∧ 0 ≤ a ∧ a ≤ 4611686018427387904 ∧ Hid (Num r p f l a) ∧ Hid (Duo wA (w.heap.size + 1) b2 [.int .i64 r, .int .i64 p, .int .i64 f, .int .i64 l, .int .i64 a] 54 [.int .i64 r, .int .i64 p, .int .i64 f, .int .i64 l, .int .i64 a] 54 wr)) (fun _ i _ => n - (intOf i).toNat)
    case atStart => exact ⟨0, f, t, by omega, rfl, rfl, HNUM.out.a0, HNUM.out.a1, HNUM, HN⟩
    case round =>
      clear HN HNUM
      obtain ⟨k, l, at_, hk, rfl, rfl, a0, a1, HM, HT⟩ := hrel
      by_cases hlt : k < n
      · obtain ⟨x, rfl, hx⟩ := (HS.out.chg (HFA.out.trans HT.out.chg (by simp)) (by simp)).2 (by omega)
        have hcell := hx k hlt
        clear hx
        have hz := wfI (HW.out (zs.getD k 0) (by rw [List.getD_eq_getElem?_getD, List.getElem?_eq_getElem (by have := HS.out.1; omega)]; simp))
        generalize zs.getD k 0 = now at *
        by_cases hbad : now < 0 ∨ 4611686018427387904 < now
        · have hno : now < at_ ∨ (at_ ≤ now ∧ 4611686018427387904 < now) := by omega
          obtain ⟨nm, ok, hxy⟩ : ∃ x y, nx r p f l at_ = (x, y) := ⟨_, _, rfl⟩
          have HXY := Lib.hid hxy
          clear hxy
          rcases hno with hno | ⟨hno, hno2⟩
          all_goals
            go_wp2_with (first | (go_at_call 12; (with_reducible refine (tok_bad _ now hbad _).mono ?_); rintro e w' ⟨rfl, rfl⟩))
            (refine (next_any _ r p f l at_ _ HT.out.b HM.out nm ok HXY.out).mono ?_)
            rintro e w3 ⟨rfl, hc⟩
            replace HT := Lib.hid (HT.out.still hc.out)
            clear hc
            go_wp2_with (first | (go_at_call 14; (with_reducible refine (take_bad _ now hbad _).mono ?_); rintro e w' ⟨rfl, rfl⟩))
            go_roundw
            case rel => exact ⟨k + 1, l, at_, by omega, by go_num, rfl, a0, a1, HM, HT⟩
            case measure => simp [intOf]; omega
        · have n0 : 0 ≤ now := by omega
          have n1 : now ≤ 4611686018427387904 := by omega
          clear hbad
          by_cases hw : now < at_
          · have HL := Lib.hid (show brL r f l at_ now = l by unfold brL; rw [if_pos (by omega)])
            have HA := Lib.hid (show brA at_ now = at_ by unfold brA; rw [if_pos (by omega)])
            go_wp2_with fail
            (refine (duo_b HT.out fun hb => tok_any _ r p f l at_ now l at_ _ hb HM.out n0 n1 HL.out HA.out).mono ?_)
            clear HT
            rintro e w3 ⟨rfl, HT⟩
            go_wp2_with fail
            obtain ⟨nm, ok, hxy⟩ : ∃ x y, nx r p f l at_ = (x, y) := ⟨_, _, rfl⟩
            have HXY := Lib.hid hxy
            clear hxy
            (refine (next_any _ r p f l at_ _ HT.out.b HM.out nm ok HXY.out).mono ?_)
            rintro e w3 ⟨rfl, hc⟩
            replace HT := Lib.hid (HT.out.still hc.out)
            clear hc
            go_wp2_with fail
            by_cases hlv : p ≤ l
            · have HM3 := Lib.hid ((HM.out).less hlv)
              have HV := Lib.hid hlv
              clear hlv
              (refine (duo_a HT.out fun hb => take_yes _ r p f l at_ now l at_ _ hb HM.out n0 n1 HL.out HA.out HV.out).mono ?_)
              clear HT
              rintro e w3 ⟨rfl, HT⟩
              go_wp2_with fail
              (refine (duo_b HT.out fun hb => take_yes _ r p f l at_ now l at_ _ hb HM.out n0 n1 HL.out HA.out HV.out).mono ?_)
              clear HT
              rintro e w3 ⟨rfl, HT⟩
              go_wp2_with fail
              go_roundw
              case rel => exact ⟨k + 1, l - p, at_, by omega, by go_num, rfl, by omega, by omega, HM3, HT⟩
              case measure => simp [intOf]; omega
            · have HV := Lib.hid (show l < p by omega)
              clear hlv
              (refine (duo_a HT.out fun hb => take_no _ r p f l at_ now l at_ _ hb HM.out n0 n1 HL.out HA.out HV.out).mono ?_)
              clear HT
              rintro e w3 ⟨rfl, HT⟩
              go_wp2_with fail
              (refine (duo_b HT.out fun hb => take_no _ r p f l at_ now l at_ _ hb HM.out n0 n1 HL.out HA.out HV.out).mono ?_)
              clear HT
              rintro e w3 ⟨rfl, HT⟩
              go_wp2_with fail
              go_roundw
              case rel => exact ⟨k + 1, l, at_, by omega, by go_num, rfl, by omega, by omega, Lib.hid (HM.out), HT⟩
              case measure => simp [intOf]; omega
          · have hw2 : at_ ≤ now := by omega
            clear hw
            have hA : brA at_ now = now := by unfold brA; split <;> omega
            obtain ⟨L, hL⟩ : ∃ L, brL r f l at_ now = L := ⟨_, rfl⟩
            obtain ⟨Lm, hLm⟩ : ∃ L, brL r f l at_ (at_ + (now - at_) / 2) = L := ⟨_, rfl⟩
            obtain ⟨Am, hAm⟩ : ∃ A, brA at_ (at_ + (now - at_) / 2) = A := ⟨_, rfl⟩
            have hMm := HM.out.bring (now := at_ + (now - at_) / 2) (by omega)
            have hM2 := HM.out.bring n1
            have q1 := br_mid r f l at_ (at_ + (now - at_) / 2) now HM.out.r0 (by omega) (by omega) HM.out.l1
            have q2 := br_again r f l at_ now
            rw [hLm, hAm] at hMm q1
            rw [hL, hA] at hM2 q1 q2
            have HQ1 := Lib.hid q1
            have HQ2 := Lib.hid q2
            have HMm := Lib.hid hMm
            have HM2 := Lib.hid hM2
            have HL := Lib.hid hL
            have HA := Lib.hid hA
            have HLm := Lib.hid hLm
            have HAm := Lib.hid hAm
            clear hA hL hLm hAm hMm hM2 q1 q2
            go_wp2_with fail
            (refine (duo_b HT.out fun hb => tok_any _ r p f l at_ (at_ + (now - at_) / 2) Lm Am _ hb HM.out (by omega) (by omega) HLm.out HAm.out).mono ?_)
            clear HT
            rintro e w3 ⟨rfl, HT⟩
            go_wp2_with fail
            (refine (duo_b HT.out fun hb => tok_any _ r p f Lm Am now L now _ hb HMm.out n0 n1 HQ1.out.1 HQ1.out.2).mono ?_)
            clear HT
            rintro e w3 ⟨rfl, HT⟩
            go_wp2_with fail
            obtain ⟨nm, ok, hxy⟩ : ∃ x y, nx r p f L now = (x, y) := ⟨_, _, rfl⟩
            have HXY := Lib.hid hxy
            clear hxy
            (refine (next_any _ r p f L now _ HT.out.b HM2.out nm ok HXY.out).mono ?_)
            rintro e w3 ⟨rfl, hc⟩
            replace HT := Lib.hid (HT.out.still hc.out)
            clear hc
            go_wp2_with fail
            by_cases hlv : p ≤ L
            · have HM3 := Lib.hid ((HM2.out).less hlv)
              have HV := Lib.hid hlv
              clear hlv
              (refine (duo_a HT.out fun hb => take_yes _ r p f l at_ now L now _ hb HM.out n0 n1 HL.out HA.out HV.out).mono ?_)
              clear HT
              rintro e w3 ⟨rfl, HT⟩
              go_wp2_with fail
              (refine (duo_b HT.out fun hb => take_yes _ r p f L now now L now _ hb HM2.out n0 n1 HQ2.out.1 HQ2.out.2 HV.out).mono ?_)
              clear HT
              rintro e w3 ⟨rfl, HT⟩
              go_wp2_with fail
              go_roundw
              case rel => exact ⟨k + 1, L - p, now, by omega, by go_num, rfl, by omega, by omega, HM3, HT⟩
              case measure => simp [intOf]; omega
            · have HV := Lib.hid (show L < p by omega)
              clear hlv
              (refine (duo_a HT.out fun hb => take_no _ r p f l at_ now L now _ hb HM.out n0 n1 HL.out HA.out HV.out).mono ?_)
              clear HT
              rintro e w3 ⟨rfl, HT⟩
              go_wp2_with fail
              (refine (duo_b HT.out fun hb => take_no _ r p f L now now L now _ hb HM2.out n0 n1 HQ2.out.1 HQ2.out.2 HV.out).mono ?_)
              clear HT
              rintro e w3 ⟨rfl, HT⟩
              go_wp2_with fail
              go_roundw
              case rel => exact ⟨k + 1, L, now, by omega, by go_num, rfl, by omega, by omega, Lib.hid (HM2.out), HT⟩
              case measure => simp [intOf]; omega
      · go_wp2_with (first | (go_at_call 11; (with_reducible refine (bspeaks _).mono ?_); rintro e w' ⟨rfl, hbel⟩))
        go_ret
        exact ⟨rfl, HBA.out.trans ((HT.out.chg.below.trans (hbel.mono HT.out.chg.size)).mono (by have := HSZ.out; omega))⟩
  · have hb1 := Lib.hid (fun w => new_bad r p u t hg w)
    clear hg
    go_enter Try.func6, Try.ntmps6
    go_wp2_with (first | (go_at_call 9; (with_reducible refine (hb1.out _).mono ?_); rintro e w' ⟨rfl, rfl⟩) | (go_at_call 11; (with_reducible refine (bspeaks _).mono ?_); rintro e w' ⟨rfl, hbel⟩))
    go_ret
    exact ⟨rfl, alloc_below _ _ hbel⟩
end Go.Proofs.Ytaknohobpapmeaa
