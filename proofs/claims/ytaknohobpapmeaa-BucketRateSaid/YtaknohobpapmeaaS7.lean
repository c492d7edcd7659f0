/- Two blocks of the call's own side by side; the walk of BucketSteps. -/
import Derived.Test.YtaknohobpapmeaaS5
import Derived.Test.YtaknohobpapmeaaF
namespace Go.Proofs.Ytaknohobpapmeaa
open Go.RowKit
set_option linter.unusedVariables false
/-- Two blocks, newer than w0, of which nothing has changed. -/
structure Duo (w0 : World) (b1 b2 : Nat) (c1 : List Value) (T1 : Nat) (c2 : List Value) (T2 : Nat) (w : World) : Prop where
  a : Blk w b1 c1 T1
  b : Blk w b2 c2 T2
  ne : b1 ≠ b2
  n1 : w0.heap.size ≤ b1
  n2 : w0.heap.size ≤ b2
  chg : Chg [] w0 w
section
variable {w0 w w' : World} {b1 b2 : Nat} {c1 c2 c1' c2' : List Value} {T1 T2 k : Nat} {args : Array Value} {v : Value}
theorem Duo.still (h : Duo w0 b1 b2 c1 T1 c2 T2 w) (hc : Chg [] w w') : Duo w0 b1 b2 c1 T1 c2 T2 w' :=
  ⟨h.a.chg hc (by simp), h.b.chg hc (by simp), h.ne, h.n1, h.n2, h.chg.trans hc (by simp)⟩
theorem duo_a (h : Duo w0 b1 b2 c1 T1 c2 T2 w) (K : Blk w b1 c1 T1 → Calls Try.prog k args w fun e w' => e = .returned v ∧ Hid (Blk w' b1 c1' T1 ∧ Chg [b1] w w')) :
    Calls Try.prog k args w fun e w' => e = .returned v ∧ Hid (Duo w0 b1 b2 c1' T1 c2 T2 w') :=
  (K h.a).mono fun e w' hh => ⟨hh.1, hh.2.out.1, h.b.chg hh.2.out.2 (by simpa using Ne.symm h.ne), h.ne, h.n1, h.n2, h.chg.trans hh.2.out.2 (by intro i hi hlt; have := h.n1; simp at hi; omega)⟩
theorem duo_b (h : Duo w0 b1 b2 c1 T1 c2 T2 w) (K : Blk w b2 c2 T2 → Calls Try.prog k args w fun e w' => e = .returned v ∧ Hid (Blk w' b2 c2' T2 ∧ Chg [b2] w w')) :
    Calls Try.prog k args w fun e w' => e = .returned v ∧ Hid (Duo w0 b1 b2 c1 T1 c2' T2 w') :=
  (K h.b).mono fun e w' hh => ⟨hh.1, h.a.chg hh.2.out.2 (by simpa using h.ne), hh.2.out.1, h.ne, h.n1, h.n2, h.chg.trans hh.2.out.2 (by intro i hi hlt; have := h.n2; simp at hi; omega)⟩
end
theorem alloc_below (w : World) (o : Obj) {w' : World} (h : Below (w.alloc o).heap.size (w.alloc o) w') : Below w.heap.size w w' :=
  ((Below.refl w.heap.size w).alloc (Nat.le_refl _) o).trans (h.mono (by simp))
theorem Ints.chg {F : List Nat} {w w' : World} {k : IntKind} {a : Option Addr} {n : Nat} {zs : List Int} (h : Ints w k a n zs) (hc : Chg F w w') (hF : ∀ i, i ∈ F → w.heap.size ≤ i) : Ints w' k a n zs := by
  refine ⟨h.1, fun hn => ?_⟩
  obtain ⟨x, hx, hcell⟩ := h.2 hn
  refine ⟨x, hx, fun i hi => ?_⟩
  have := hcell i hi
  refine hc.cell this (fun hm => ?_)
  have h1 := World.block_lt_of_cell? w _ this
  have := hF _ hm
  omega
theorem Num.less {r p f l a : Int} (h : Num r p f l a) (hl : p ≤ l) : Num r p f (l - p) a := by
  obtain ⟨h1, h2, h3, h4, h5, h6, h7, h8, h9, ha⟩ := h
  exact ⟨h1, h2, h3, h4, h5, h6, by omega, by omega, h9, ha⟩
theorem RNum.less {r p u f l a : Int} (h : RNum r p u f l a) (hl : p ≤ l) : RNum r p u f (l - p) a := ⟨h.num.less hl, h.u0, h.u1, h.full⟩
set_option maxHeartbeats 8000000 in
set_option maxRecDepth 100000 in
theorem bucketSteps_walk (w : World) (r p u t : Int) (wr : (Lit.int .i64 r).wf = true) (wp : (Lit.int .i64 p).wf = true) (wu : (Lit.int .i64 u).wf = true) (wt : (Lit.int .i64 t).wf = true)
    (a : Option Addr) (n cap : Nat) (zs : List Int) (hr : n * 8 ≤ 140737488351232) (hn : n ≤ 9223372036854775807) (hwf : ∀ n ∈ zs, (Lit.int .i64 n).wf = true) (hs : Ints w .i64 a n zs) :
    Calls Try.prog 3 #[.agg #[.int .i64 r, .int .i64 p, .int .i64 u, .int .i64 t], .slice a n cap] w fun e w' => e = .returned (.bool true) ∧ Below w.heap.size w w' := by
  have HS := Lib.hid hs
  have HW := Lib.hid hwf
  clear hs hwf wr wp wu wt
  by_cases hg : Good r p u t
  · go_enter Try.func3, Try.ntmps3
    go_wp2_with fail
    refine (new_ok r p u t _ hg).mono ?_
    rintro e w1 ⟨rfl, H1⟩
    have HA := Lib.hid ((Blk.new w [.int .i64 r, .int .i64 p, .int .i64 u, .int .i64 t] 23).chg H1.out.2 (by simp))
    have d0 := HA.out.cell 0 _ rfl
    have d1 := HA.out.cell 1 _ rfl
    have d2 := HA.out.cell 2 _ rfl
    have d3 := HA.out.cell 3 _ rfl
    go_wp2_with fail
    refine (rnew_ok r p u t _ hg).mono ?_
    rintro e w2 ⟨rfl, H2⟩
    have hgn := good_num hg
    generalize hful : u * p = f at *
    have hsz : (w.alloc (.cells #[.int .i64 r, .int .i64 p, .int .i64 u, .int .i64 t] 23)).heap.size = w.heap.size + 1 := by simp
    have HN := Lib.hid (show Duo (w.alloc (.cells #[.int .i64 r, .int .i64 p, .int .i64 u, .int .i64 t] 23)) (w.alloc (.cells #[.int .i64 r, .int .i64 p, .int .i64 u, .int .i64 t] 23)).heap.size w1.heap.size [.int .i64 r, .int .i64 p, .int .i64 f, .int .i64 f, .int .i64 t] 54 [.int .i64 r, .int .i64 p, .int .i64 u, .int .i64 f, .int .i64 t] 56 w2 from
      ⟨H1.out.1.chg H2.out.2 (by simp), H2.out.1, by have := H1.out.1.lt; omega, Nat.le_refl _, H1.out.2.size, H1.out.2.trans H2.out.2 (by simp)⟩)
    rw [hsz] at HN
    have HNUM := Lib.hid hgn
    have HFA := Lib.hid ((Chg.refl [] w).alloc (.cells #[.int .i64 r, .int .i64 p, .int .i64 u, .int .i64 t] 23))
    have HBA := Lib.hid ((Below.refl w.heap.size w).alloc (Nat.le_refl _) (.cells #[.int .i64 r, .int .i64 p, .int .i64 u, .int .i64 t] 23))
    have HSZ := Lib.hid hsz
    clear hgn d0 d1 d2 d3 HA H1 H2 hsz hful hg
    generalize hw0 : w.alloc (.cells #[.int .i64 r, .int .i64 p, .int .i64 u, .int .i64 t] 23) = wA at *
    clear hw0
    generalize w1.heap.size = b2 at *
    clear w1
    go_wp2_with fail
    go_loopw [62] (fun i wr => ∃ (k : Nat) (l a : Int), k ≤ n ∧ i = .int .i64 k ∧ Hid (RNum r p u f l a) ∧ Hid (Duo wA (w.heap.size + 1) b2 [.int .i64 r, .int .i64 p, .int .i64 f, .int .i64 l, .int .i64 a] 54 [.int .i64 r, .int .i64 p, .int .i64 u, .int .i64 l, .int .i64 a] 56 wr)) (fun i _ => n - (intOf i).toNat)
    case atStart => exact ⟨0, f, t, by omega, rfl, HNUM, HN⟩
    case round =>
      clear HN HNUM
      obtain ⟨k, l, at_, hk, rfl, HM, HT⟩ := hrel
      by_cases hlt : k < n
      · obtain ⟨x, rfl, hx⟩ := (HS.out.chg (HFA.out.trans HT.out.chg (by simp)) (by simp)).2 (by omega)
        have hcell := hx k hlt
        clear hx
        have hz := wfI (HW.out (zs.getD k 0) (by rw [List.getD_eq_getElem?_getD, List.getElem?_eq_getElem (by have := HS.out.1; omega)]; simp))
        generalize zs.getD k 0 = now at *
        by_cases hbad : now < 0 ∨ 4611686018427387904 < now
        · by_cases hk3 : (k : Int) % 3 = 2
          · go_wp2_with (first | (go_at_call 12; (with_reducible refine (tok_bad _ now hbad _).mono ?_); rintro e w' ⟨rfl, rfl⟩) | (go_at_call 13; (with_reducible refine (rtok_bad _ now hbad _).mono ?_); rintro e w' ⟨rfl, rfl⟩))
            go_roundw
            case rel => exact ⟨k + 1, l, at_, by omega, by go_num, HM, HT⟩
            case measure => simp [intOf]; omega
          · have hk3' : ((k : Int) % 3 == 2) = false := beq_eq_false_iff_ne.2 hk3
            go_wp2_with (first | (go_at_call 14; (with_reducible refine (take_bad _ now hbad _).mono ?_); rintro e w' ⟨rfl, rfl⟩) | (go_at_call 15; (with_reducible refine (rtake_bad _ now hbad _).mono ?_); rintro e w' ⟨rfl, rfl⟩))
            obtain ⟨nm, ok, hxy⟩ : ∃ x y, nx r p f l at_ = (x, y) := ⟨_, _, rfl⟩
            have HXY := Lib.hid hxy
            clear hxy
            (refine (next_any _ r p f l at_ _ HT.out.a HM.out.num nm ok HXY.out).mono ?_)
            rintro e w3 ⟨rfl, hc⟩
            replace HT := Lib.hid (HT.out.still hc.out)
            clear hc
            go_wp2_with fail
            (refine (rnext_any _ r p u f l at_ _ HT.out.b HM.out nm ok HXY.out).mono ?_)
            rintro e w3 ⟨rfl, hc⟩
            replace HT := Lib.hid (HT.out.still hc.out)
            clear hc
            go_wp2_with fail
            go_roundw
            case rel => exact ⟨k + 1, l, at_, by omega, by go_num, HM, HT⟩
            case measure => simp [intOf]; omega
        · have n0 : 0 ≤ now := by omega
          have n1 : now ≤ 4611686018427387904 := by omega
          clear hbad
          obtain ⟨L, hL⟩ : ∃ L, brL r f l at_ now = L := ⟨_, rfl⟩
          obtain ⟨A, hA⟩ : ∃ A, brA at_ now = A := ⟨_, rfl⟩
          have hM2 := HM.out.bring n1
          rw [hL, hA] at hM2
          have HM2 := Lib.hid hM2
          have HL := Lib.hid hL
          have HA := Lib.hid hA
          clear hL hA hM2
          by_cases hk3 : (k : Int) % 3 = 2
          · go_wp2_with fail
            (refine (duo_a HT.out fun hb => tok_any _ r p f l at_ now L A _ hb HM.out.num n0 n1 HL.out HA.out).mono ?_)
            clear HT
            rintro e w3 ⟨rfl, HT⟩
            go_wp2_with fail
            (refine (duo_b HT.out fun hb => rtok_any _ r p u f l at_ now L A _ hb HM.out n0 n1 HL.out HA.out).mono ?_)
            clear HT
            rintro e w3 ⟨rfl, HT⟩
            go_wp2_with fail
            go_roundw
            case rel => exact ⟨k + 1, L, A, by omega, by go_num, HM2, HT⟩
            case measure => simp [intOf]; omega
          · have hk3' : ((k : Int) % 3 == 2) = false := beq_eq_false_iff_ne.2 hk3
            by_cases hlv : p ≤ L
            · have HM3 := Lib.hid (HM2.out.less hlv)
              have HV := Lib.hid hlv
              clear hlv
              go_wp2_with fail
              (refine (duo_a HT.out fun hb => take_yes _ r p f l at_ now L A _ hb HM.out.num n0 n1 HL.out HA.out HV.out).mono ?_)
              clear HT
              rintro e w3 ⟨rfl, HT⟩
              go_wp2_with fail
              (refine (duo_b HT.out fun hb => rtake_yes _ r p u f l at_ now L A _ hb HM.out n0 n1 HL.out HA.out HV.out).mono ?_)
              clear HT
              rintro e w3 ⟨rfl, HT⟩
              go_wp2_with fail
              obtain ⟨nm, ok, hxy⟩ : ∃ x y, nx r p f (L - p) A = (x, y) := ⟨_, _, rfl⟩
              have HXY := Lib.hid hxy
              clear hxy
              (refine (next_any _ r p f (L - p) A _ HT.out.a HM3.out.num nm ok HXY.out).mono ?_)
              rintro e w3 ⟨rfl, hc⟩
              replace HT := Lib.hid (HT.out.still hc.out)
              clear hc
              go_wp2_with fail
              (refine (rnext_any _ r p u f (L - p) A _ HT.out.b HM3.out nm ok HXY.out).mono ?_)
              rintro e w3 ⟨rfl, hc⟩
              replace HT := Lib.hid (HT.out.still hc.out)
              clear hc
              go_wp2_with fail
              go_roundw
              case rel => exact ⟨k + 1, L - p, A, by omega, by go_num, HM3, HT⟩
              case measure => simp [intOf]; omega
            · have HV := Lib.hid (show L < p by omega)
              clear hlv
              go_wp2_with fail
              (refine (duo_a HT.out fun hb => take_no _ r p f l at_ now L A _ hb HM.out.num n0 n1 HL.out HA.out HV.out).mono ?_)
              clear HT
              rintro e w3 ⟨rfl, HT⟩
              go_wp2_with fail
              (refine (duo_b HT.out fun hb => rtake_no _ r p u f l at_ now L A _ hb HM.out n0 n1 HL.out HA.out HV.out).mono ?_)
              clear HT
              rintro e w3 ⟨rfl, HT⟩
              go_wp2_with fail
              obtain ⟨nm, ok, hxy⟩ : ∃ x y, nx r p f L A = (x, y) := ⟨_, _, rfl⟩
              have HXY := Lib.hid hxy
              clear hxy
              (refine (next_any _ r p f L A _ HT.out.a HM2.out.num nm ok HXY.out).mono ?_)
              rintro e w3 ⟨rfl, hc⟩
              replace HT := Lib.hid (HT.out.still hc.out)
              clear hc
              go_wp2_with fail
              (refine (rnext_any _ r p u f L A _ HT.out.b HM2.out nm ok HXY.out).mono ?_)
              rintro e w3 ⟨rfl, hc⟩
              replace HT := Lib.hid (HT.out.still hc.out)
              clear hc
              go_wp2_with fail
              go_roundw
              case rel => exact ⟨k + 1, L, A, by omega, by go_num, HM2, HT⟩
              case measure => simp [intOf]; omega
      · go_wp2_with (first | (go_at_call 11; (with_reducible refine (bspeaks _).mono ?_); rintro e w' ⟨rfl, hbel⟩))
        go_ret
        exact ⟨rfl, HBA.out.trans ((HT.out.chg.below.trans (hbel.mono HT.out.chg.size)).mono (by have := HSZ.out; omega))⟩
  · have hb1 := Lib.hid (fun w => new_bad r p u t hg w)
    have hb2 := Lib.hid (fun w => rnew_bad r p u t hg w)
    clear hg
    go_enter Try.func3, Try.ntmps3
    go_wp2_with (first | (go_at_call 9; (with_reducible refine (hb1.out _).mono ?_); rintro e w' ⟨rfl, rfl⟩) | (go_at_call 10; (with_reducible refine (hb2.out _).mono ?_); rintro e w' ⟨rfl, rfl⟩) | (go_at_call 11; (with_reducible refine (bspeaks _).mono ?_); rintro e w' ⟨rfl, hbel⟩))
    go_ret
    exact ⟨rfl, alloc_below _ _ hbel⟩
end Go.Proofs.Ytaknohobpapmeaa
