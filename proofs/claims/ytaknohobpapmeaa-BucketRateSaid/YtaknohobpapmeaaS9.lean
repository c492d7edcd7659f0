/- The walk of BucketNext: a token is there at Next, and not a tick earlier. -/
import Derived.Test.YtaknohobpapmeaaS8
namespace Go.Proofs.Ytaknohobpapmeaa
open Go.RowKit
set_option linter.unusedVariables false
/-- A block newer than w0, of which nothing has changed. -/
structure One (w0 : World) (b : Nat) (c : List Value) (T : Nat) (w : World) : Prop where
  a : Blk w b c T
  n1 : w0.heap.size ≤ b
  chg : Chg [] w0 w
section
variable {w0 w w' : World} {b : Nat} {c c' : List Value} {T k : Nat} {args : Array Value} {v : Value}
theorem One.still (h : One w0 b c T w) (hc : Chg [] w w') : One w0 b c T w' := ⟨h.a.chg hc (by simp), h.n1, h.chg.trans hc (by simp)⟩
theorem one_c (h : One w0 b c T w) (K : Blk w b c T → Calls Try.prog k args w fun e w' => e = .returned v ∧ Hid (Blk w' b c' T ∧ Chg [b] w w')) :
    Calls Try.prog k args w fun e w' => e = .returned v ∧ Hid (One w0 b c' T w') :=
  (K h.a).mono fun e w' hh => ⟨hh.1, hh.2.out.1, h.n1, h.chg.trans hh.2.out.2 (by intro i hi hlt; have := h.n1; simp at hi; omega)⟩
end
theorem tok_none (b : Nat) (r p f l a now L A : Int) (w : World) (h : Blk w b [.int .i64 r, .int .i64 p, .int .i64 f, .int .i64 l, .int .i64 a] 54) (N : Num r p f l a) (n0 : 0 ≤ now) (n1 : now ≤ 4611686018427387904) (hL : brL r f l a now = L) (hA : brA a now = A) (hlt : L < p) :
    Calls Try.prog 12 #[.pointer (some ⟨b, 0, none⟩), .int .i64 now] w fun e w' => e = .returned (.tuple #[.int .i64 0, .int .i64 0]) ∧ Hid (Blk w' b [.int .i64 r, .int .i64 p, .int .i64 f, .int .i64 L, .int .i64 A] 54 ∧ Chg [b] w w') := by
  have K := tok_any b r p f l a now L A w h N n0 n1 hL hA
  have N2 := N.bring n1
  rw [hL] at N2
  rw [div_zero_of L p N2.l0 hlt] at K
  exact K
/-- What need is good for. -/
theorem need_fits (r p l : Int) (hr : 0 < r) : p - l ≤ need r p l * r ∧ (need r p l - 1) * r < p - l := by
  unfold need
  have h1 := Int.mul_ediv_add_emod (p - l + r - 1) r
  have h2 := Int.emod_lt_of_pos (p - l + r - 1) hr
  have h3 := Int.emod_nonneg (p - l + r - 1) (show r ≠ 0 by omega)
  have e : r * ((p - l + r - 1) / r) = (p - l + r - 1) / r * r := Int.mul_comm _ _
  have e2 : ((p - l + r - 1) / r - 1) * r = (p - l + r - 1) / r * r - 1 * r := Int.sub_mul _ _ _
  omega
/-- After fewer ticks than are needed there is no token. -/
theorem few (r p f l g : Int) (hr : 0 ≤ r) (hg : 0 ≤ g) (hl : l < p) (h : r = 0 ∨ f < p ∨ g < need r p l) : lev r f l g < p := by
  have hle := lev_le r f l g
  rcases h with h | h | h
  · subst h; unfold lev; rw [Int.mul_zero]; split <;> omega
  · omega
  · by_cases h0 : r = 0
    · subst h0; unfold lev; rw [Int.mul_zero]; split <;> omega
    · have := (need_fits r p l (by omega)).2
      have m : g * r ≤ (need r p l - 1) * r := Int.mul_le_mul_of_nonneg_right (by omega) hr
      unfold lev
      split <;> omega
theorem brL_few (r f l a now p : Int) (hr : 0 ≤ r) (hl : l < p) (h : r = 0 ∨ f < p ∨ now - a < need r p l) : brL r f l a now < p := by
  unfold brL
  split
  · exact hl
  · exact few r p f l _ hr (by omega) hl h
theorem brL_enough (r p f l a : Int) (hr : 0 < r) (hl : l < p) (hf : p ≤ f) : p ≤ brL r f l a (a + need r p l) ∧ 1 ≤ need r p l := by
  have h := need_fits r p l hr
  have h1 : 1 ≤ need r p l := by
    by_cases c : need r p l ≤ 0
    · have : need r p l * r ≤ 0 := Int.mul_nonpos_of_nonpos_of_nonneg c (by omega)
      omega
    · omega
  refine ⟨?_, h1⟩
  unfold brL
  rw [if_neg (by omega), show a + need r p l - a = need r p l by omega]
  unfold lev
  split <;> omega
set_option maxHeartbeats 8000000 in
set_option maxRecDepth 100000 in
theorem bucketNext_walk (w : World) (r p u t : Int) (wr : (Lit.int .i64 r).wf = true) (wp : (Lit.int .i64 p).wf = true) (wu : (Lit.int .i64 u).wf = true) (wt : (Lit.int .i64 t).wf = true) (tk : Int) (wk : (Lit.int .i64 tk).wf = true) :
    Calls Try.prog 5 #[.agg #[.int .i64 r, .int .i64 p, .int .i64 u, .int .i64 t], .int .i64 tk] w fun e w' => e = .returned (.bool true) ∧ Below w.heap.size w w' := by
  have htk := wfI wk
  clear wr wp wu wt wk
  by_cases hg : Good r p u t
  · go_enter Try.func5, Try.ntmps5
    go_wp2_with fail
    refine (new_ok r p u t _ hg).mono ?_
    rintro e w1 ⟨rfl, H1⟩
    have hgn := good_num hg
    generalize hful : u * p = f at *
    have hsz : (w.alloc (.cells #[.int .i64 r, .int .i64 p, .int .i64 u, .int .i64 t] 23)).heap.size = w.heap.size + 1 := by simp
    have HN := Lib.hid (show One (w.alloc (.cells #[.int .i64 r, .int .i64 p, .int .i64 u, .int .i64 t] 23)) (w.alloc (.cells #[.int .i64 r, .int .i64 p, .int .i64 u, .int .i64 t] 23)).heap.size [.int .i64 r, .int .i64 p, .int .i64 f, .int .i64 f, .int .i64 t] 54 w1 from
      ⟨H1.out.1, Nat.le_refl _, H1.out.2⟩)
    rw [hsz] at HN
    have HNUM := Lib.hid hgn.num
    have HBA := Lib.hid ((Below.refl w.heap.size w).alloc (Nat.le_refl _) (.cells #[.int .i64 r, .int .i64 p, .int .i64 u, .int .i64 t] 23))
    have HSZ := Lib.hid hsz
    have HAB := Lib.hid (Blk.new w [.int .i64 r, .int .i64 p, .int .i64 u, .int .i64 t] 23)
    have t0 := hgn.num.a0
    have t1 := hgn.num.a1
    clear hgn H1 hsz hful hg
    go_wp2_with fail
    generalize hw0 : w.alloc (.cells #[.int .i64 r, .int .i64 p, .int .i64 u, .int .i64 t] 23) = wA at *
    clear hw0
    go_loopw [7] (fun i wr => ∃ (k : Nat) (l : Int), k ≤ 100 ∧ i = .int .i64 k ∧ Hid (Num r p f l t) ∧ Hid (One wA (w.heap.size + 1) [.int .i64 r, .int .i64 p, .int .i64 f, .int .i64 l, .int .i64 t] 54 wr)) (fun i _ => 100 - (intOf i).toNat)
    case atStart => exact ⟨0, f, by omega, rfl, HNUM, HN⟩
    case round =>
      clear HN HNUM
      obtain ⟨k, l, hk, rfl, HM, HT⟩ := hrel
      have d3 := (HAB.out.chg HT.out.chg (by simp)).cell 3 _ rfl
      by_cases hlt : (k : Int) < tk ∧ (k : Int) < 100
      · obtain ⟨hl1, hl2⟩ := hlt
        have HL := Lib.hid (show brL r f l t t = l by unfold brL; simp)
        have HA := Lib.hid (show brA t t = t by unfold brA; simp)
        by_cases hlv : p ≤ l
        · have HM3 := Lib.hid (HM.out.less hlv)
          have HV := Lib.hid hlv
          clear hlv
          go_wp2_with fail
          (refine (one_c HT.out fun hb => take_yes _ r p f l t t l t _ hb HM.out t0 t1 HL.out HA.out HV.out).mono ?_)
          clear HT
          rintro e w3 ⟨rfl, HT⟩
          go_wp2_with fail
          go_roundw
          case rel => exact ⟨k + 1, l - p, by omega, by go_num, HM3, HT⟩
          case measure => simp [intOf]; omega
        · have HV := Lib.hid (show l < p by omega)
          clear hlv
          go_wp2_with fail
          (refine (one_c HT.out fun hb => take_no _ r p f l t t l t _ hb HM.out t0 t1 HL.out HA.out HV.out).mono ?_)
          clear HT
          rintro e w3 ⟨rfl, HT⟩
          go_wp2_with fail
          go_roundw
          case rel => exact ⟨k + 1, l, by omega, by go_num, HM, HT⟩
          case measure => simp [intOf]; omega
      · obtain ⟨nm, ok, hxy⟩ : ∃ x y, nx r p f l t = (x, y) := ⟨_, _, rfl⟩
        have HXY := Lib.hid hxy
        rcases (show ¬ ((k : Int) < tk) ∨ ((k : Int) < tk ∧ ¬ ((k : Int) < 100)) by omega) with hx | ⟨hx, hx2⟩
        all_goals
          clear hlt
          go_wp2_with fail
          (refine (next_any _ r p f l t _ HT.out.a HM.out nm ok HXY.out).mono ?_)
          rintro e w3 ⟨rfl, hc⟩
          replace HT := Lib.hid (HT.out.still hc.out)
          clear hc
          have d3 := (HAB.out.chg HT.out.chg (by simp)).cell 3 _ rfl
          by_cases k1 : p ≤ l
          · have e : nx r p f l t = (t, true) := by unfold nx; rw [if_pos k1]
            rw [e] at hxy
            injection hxy with e1 e2
            subst e1 e2
            have HL := Lib.hid (show brL r f l t t = l by unfold brL; simp)
            have HA := Lib.hid (show brA t t = t by unfold brA; simp)
            have HV := Lib.hid k1
            clear k1 e
            go_wp2_with fail
            (refine (one_c HT.out fun hb => take_yes _ r p f l t t l t _ hb HM.out t0 t1 HL.out HA.out HV.out).mono ?_)
            clear HT
            rintro e w3 ⟨rfl, HT⟩
            go_wp2_with (first | (go_at_call 11; (with_reducible refine (bspeaks _).mono ?_); rintro e w' ⟨rfl, hbel⟩))
            go_ret
            exact ⟨rfl, HBA.out.trans ((HT.out.chg.below.trans (hbel.mono HT.out.chg.size)).mono (by have := HSZ.out; omega))⟩
          by_cases k2 : r = 0 ∨ f < p ∨ 4611686018427387904 - t < need r p l
          · have e : nx r p f l t = (0, false) := by
              unfold nx
              rw [if_neg k1]
              by_cases c : r = 0 ∨ f < p
              · rw [if_pos c]
              · rw [if_neg c, if_pos (by omega)]
            rw [e] at hxy
            injection hxy with e1 e2
            subst e1 e2
            have HV := Lib.hid (brL_few r f l t 4611686018427387904 p HM.out.r0 (by omega) k2)
            clear k1 k2 e
            go_wp2_with fail
            (refine (one_c HT.out fun hb => tok_none _ r p f l t 4611686018427387904 _ _ _ hb HM.out (by omega) (by omega) rfl rfl HV.out).mono ?_)
            clear HT
            rintro e w3 ⟨rfl, HT⟩
            have d3 := (HAB.out.chg HT.out.chg (by simp)).cell 3 _ rfl
            go_wp2_with (first | (go_at_call 11; (with_reducible refine (bspeaks _).mono ?_); rintro e w' ⟨rfl, hbel⟩))
            go_ret
            exact ⟨rfl, HBA.out.trans ((HT.out.chg.below.trans (hbel.mono HT.out.chg.size)).mono (by have := HSZ.out; omega))⟩
          · have hr0 := HM.out.r0
            have e : nx r p f l t = (t + need r p l, true) := by
              unfold nx
              rw [if_neg k1, if_neg (by omega), if_neg (by omega)]
            rw [e] at hxy
            injection hxy with e1 e2
            subst e1 e2
            have hen := brL_enough r p f l t (by omega) (by omega) (by omega)
            have hfe := brL_few r f l t (t + need r p l - 1) p hr0 (by omega) (.inr (.inr (by omega)))
            have hmx : t + need r p l ≤ 4611686018427387904 := by omega
            have hnd := hen.2
            have hmid := br_mid r f l t (t + need r p l - 1) (t + need r p l) hr0 (by omega) (by omega) HM.out.l1
            have HN2 := Lib.hid (HM.out.bring (now := t + need r p l - 1) (by omega))
            have HMID := Lib.hid hmid
            have HEN := Lib.hid hen.1
            have HFE := Lib.hid hfe
            clear k1 k2 e hen hfe hmid
            generalize need r p l = nd at *
            go_wp2_with fail
            (refine (one_c HT.out fun hb => tok_none _ r p f l t (t + nd - 1) _ _ _ hb HM.out (by omega) (by omega) rfl rfl HFE.out).mono ?_)
            clear HT
            rintro e w3 ⟨rfl, HT⟩
            go_wp2_with fail
            (refine (one_c HT.out fun hb => take_yes _ r p f _ _ (t + nd) _ _ _ hb HN2.out (by omega) (by omega) HMID.out.1 HMID.out.2 HEN.out).mono ?_)
            clear HT
            rintro e w3 ⟨rfl, HT⟩
            go_wp2_with (first | (go_at_call 11; (with_reducible refine (bspeaks _).mono ?_); rintro e w' ⟨rfl, hbel⟩))
            go_ret
            exact ⟨rfl, HBA.out.trans ((HT.out.chg.below.trans (hbel.mono HT.out.chg.size)).mono (by have := HSZ.out; omega))⟩
  · have hb1 := Lib.hid (fun w => new_bad r p u t hg w)
    clear hg
    go_enter Try.func5, Try.ntmps5
    go_wp2_with (first | (go_at_call 9; (with_reducible refine (hb1.out _).mono ?_); rintro e w' ⟨rfl, rfl⟩) | (go_at_call 11; (with_reducible refine (bspeaks _).mono ?_); rintro e w' ⟨rfl, hbel⟩))
    go_ret
    exact ⟨rfl, alloc_below _ _ hbel⟩
end Go.Proofs.Ytaknohobpapmeaa
