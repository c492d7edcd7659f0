/- The walks of ProbeNil and ProbeOnce. -/
import Derived.Test.YteaepadamhmknaaP5
import Derived.Test.YteaepadamhmknaaF
namespace Go.Proofs.Yteaepadamhmknaa
open Go.RowKit
set_option linter.unusedVariables false
theorem probeNil_walk (w : World) (now : Int) (w1 : (Lit.int .i64 now).wf = true) (host : Int) (w2 : (Lit.int .i64 host).wf = true) :
    Calls Try.prog 10 #[.int .i64 now, .int .i64 host] w fun e w' => e = .returned (.bool true) ∧ Below w.heap.size w w' := by
  clear w1 w2
  by_cases hbad : now < 0 ∨ 4611686018427387904 < now
  · have HB := Lib.hid hbad
    clear hbad
    go_enter Try.func10, Try.ntmps10
    go_wp2_with (first | (go_at_call 28; (with_reducible refine (due_bad _ now HB.out _).mono ?_); rintro e w' ⟨rfl, rfl⟩) | (go_at_call 31; (with_reducible refine (late_bad _ now HB.out _).mono ?_); rintro e w' ⟨rfl, rfl⟩) | (go_at_call 29; (with_reducible refine (answer_bad _ now host _ HB.out _).mono ?_); rintro e w' ⟨rfl, rfl⟩) | (go_at_call 32; (with_reducible refine (next_nil _).mono ?_); rintro e w' ⟨rfl, rfl⟩) | (go_at_call 21; (with_reducible refine (rmoment_no now HB.out _).mono ?_); rintro e w' ⟨rfl, rfl⟩) | (go_at_call 30; (with_reducible refine (healthy_nil host _).mono ?_); rintro e w' ⟨rfl, rfl⟩))
    (refine (speaks19_any _).mono ?_)
    rintro e w3 ⟨rfl, HQ⟩
    go_wp2_with fail
    go_ret
    exact ⟨rfl, HQ.out.below⟩
  · have n0 : 0 ≤ now := by omega
    have n1 : now ≤ 4611686018427387904 := by omega
    clear hbad
    go_enter Try.func10, Try.ntmps10
    go_wp2_with (first | (go_at_call 28; (with_reducible refine (due_nil now n0 n1 _).mono ?_); rintro e w' ⟨rfl, rfl⟩) | (go_at_call 31; (with_reducible refine (late_nil now n0 n1 _).mono ?_); rintro e w' ⟨rfl, rfl⟩) | (go_at_call 29; (with_reducible refine (answer_nil now host _ n0 n1 _).mono ?_); rintro e w' ⟨rfl, rfl⟩) | (go_at_call 32; (with_reducible refine (next_nil _).mono ?_); rintro e w' ⟨rfl, rfl⟩) | (go_at_call 21; (with_reducible refine (rmoment_yes now n0 n1 _).mono ?_); rintro e w' ⟨rfl, rfl⟩) | (go_at_call 30; (with_reducible refine (healthy_nil host _).mono ?_); rintro e w' ⟨rfl, rfl⟩))
    (refine (speaks19_any _).mono ?_)
    rintro e w3 ⟨rfl, HQ⟩
    go_wp2_with fail
    go_ret
    exact ⟨rfl, HQ.out.below⟩
theorem pChg.fresh {F : List Nat} {a w : World} (h : Chg F a w) (hF : ∀ i, i ∈ F → a.heap.size ≤ i) : Chg [] a w :=
  ⟨h.os, h.tape, h.output, h.size, fun k hk _ => h.block k hk (fun hm => by have := hF k hm; omega)⟩
theorem palloc_below (w : World) (o : Obj) {w' : World} (h : Below (w.alloc o).heap.size (w.alloc o) w') : Below w.heap.size w w' :=
  ((Below.refl w.heap.size w).alloc (Nat.le_refl _) o).trans (h.mono (by simp))
theorem ans_shape {every up down L N : Int} {x y : Ho} {ok : Bool} {z : Int} (h : ans every up down L x ok = (y, z)) (r0 : 0 ≤ x.row) (r1 : x.row ≤ N) (t0 : 0 ≤ x.times) (t1 : x.times ≤ N) :
    y.sick = false ∧ y.til = tlate L every ∧ 0 ≤ y.row ∧ y.row ≤ N + 1 ∧ 0 ≤ y.times ∧ y.times ≤ N + 1 := by
  unfold ans at h
  split at h
  · split at h
    · injection h with e1 e2; subst e1; exact ⟨rfl, rfl, by dsimp only; omega, by dsimp only; omega, by dsimp only; omega, by dsimp only; omega⟩
    · injection h with e1 e2; subst e1; exact ⟨rfl, rfl, by dsimp only; omega, by dsimp only; omega, by dsimp only; omega, by dsimp only; omega⟩
  · split at h
    · injection h with e1 e2; subst e1; exact ⟨rfl, rfl, by dsimp only; omega, by dsimp only; omega, by dsimp only; omega, by dsimp only; omega⟩
    · injection h with e1 e2; subst e1; exact ⟨rfl, rfl, by dsimp only; omega, by dsimp only; omega, by dsimp only; omega, by dsimp only; omega⟩
theorem atOk_one (x : Ho) (h0 : 0 ≤ x.til) (h1 : x.til ≤ 4611686018427387904) : AtOk [x] := fun y hy => by
  obtain rfl : y = x := by simpa using hy
  exact ⟨h0, h1⟩
theorem idx_one_yes {p : Ho → Bool} {x : Ho} (h : p x = true) : idxI p [x] 0 = [0] := by
  unfold idxI
  rw [if_pos h]
  rfl
theorem idx_one_no {p : Ho → Bool} {x : Ho} (h : p x = false) : idxI p [x] 0 = [] := by
  unfold idxI
  rw [if_neg (by rw [h]; simp)]
  rfl
/-- The schedule of one host: its probe runs, or the next one is due at fr. -/
def Sch (w0 : World) (b g : Nat) (every timeout up down now : Int) (runs : Bool) (fr N : Int) (w : World) : Prop :=
  ∃ last x, Hst 83 85 w b g every timeout up down last [x] ∧ Chg [b, g] w0 w ∧ 0 ≤ last ∧ last ≤ now ∧ x.sick = runs ∧ (runs = false → x.til = fr) ∧ 0 ≤ x.til ∧ x.til ≤ 2305843009213693952 ∧ 0 ≤ x.row ∧ x.row ≤ N ∧ 0 ≤ x.times ∧ x.times ≤ N
set_option maxHeartbeats 8000000 in
set_option maxRecDepth 100000 in
theorem probeOnce_walk (w : World) (every timeout up down : Int) (w1 : (Lit.int .i64 every).wf = true) (w2 : (Lit.int .i64 timeout).wf = true) (w3 : (Lit.int .i64 up).wf = true) (w4 : (Lit.int .i64 down).wf = true)
    (a : Option Addr) (n cap : Nat) (zs : List Int) (hr : n * 8 ≤ 140737488351232) (hn : n ≤ 9223372036854775807) (hwf : ∀ n ∈ zs, (Lit.int .i64 n).wf = true) (hs : Ints w .i64 a n zs) :
    Calls Try.prog 8 #[.agg #[.int .i64 every, .int .i64 timeout, .int .i64 up, .int .i64 down], .slice a n cap] w fun e w' => e = .returned (.bool true) ∧ Below w.heap.size w w' := by
  have HS0 := Lib.hid hs
  have HW := Lib.hid hwf
  clear hs hwf w1 w2 w3 w4
  by_cases hg : PGood 1 every timeout up down
  · go_enter Try.func8, Try.ntmps8
    go_wp2_with fail
    refine (pnew_ok 1 every timeout up down _ hg).mono ?_
    rintro e w1 ⟨b1, g1, rfl, hb1, hg1, hst1, hch1⟩
    obtain ⟨-, ⟨e0, e1⟩, ⟨p0, p1⟩, -, -⟩ := hg
    have HBX := Lib.hid (Blk.new w [.int .i64 every, .int .i64 timeout, .int .i64 up, .int .i64 down] 51)
    have HN := Lib.hid (show Sch (w.alloc (.cells #[.int .i64 every, .int .i64 timeout, .int .i64 up, .int .i64 down] 51)) b1 g1 every timeout up down 0 false 0 0 w1 from
      ⟨0, fresh, hst1, hch1.mono (by simp), by omega, by omega, rfl, fun _ => rfl, by decide, by decide, by decide, by decide, by decide, by decide⟩)
    have HNEW := Lib.hid (show w.heap.size ∉ [b1, g1] ∧ ∀ i, i ∈ [b1, g1] → (w.alloc (.cells #[.int .i64 every, .int .i64 timeout, .int .i64 up, .int .i64 down] 51)).heap.size ≤ i from by
      have hsz : (w.alloc (.cells #[.int .i64 every, .int .i64 timeout, .int .i64 up, .int .i64 down] 51)).heap.size = w.heap.size + 1 := by simp
      refine ⟨?_, fun i hi => ?_⟩
      · simp only [List.mem_cons, List.not_mem_nil, or_false]
        omega
      · simp only [List.mem_cons, List.not_mem_nil, or_false] at hi
        omega)
    have HFA := Lib.hid ((Chg.refl [] w).alloc (.cells #[.int .i64 every, .int .i64 timeout, .int .i64 up, .int .i64 down] 51))
    have HBA := Lib.hid (fun (w' : World) (h : Below (w.alloc (.cells #[.int .i64 every, .int .i64 timeout, .int .i64 up, .int .i64 down] 51)).heap.size (w.alloc (.cells #[.int .i64 every, .int .i64 timeout, .int .i64 up, .int .i64 down] 51)) w') => palloc_below w _ h)
    clear hb1 hg1 hst1 hch1
    generalize w.alloc (.cells #[.int .i64 every, .int .i64 timeout, .int .i64 up, .int .i64 down] 51) = wA at *
    go_wp2_with fail
    go_loopw [7, 8, 9, 34] (fun nv rv fv iv wr => ∃ (k : Nat) (now fr : Int) (runs : Bool), k ≤ n ∧ iv = .int .i64 k ∧ nv = .int .i64 now ∧ rv = .bool runs ∧ fv = .int .i64 fr ∧ 0 ≤ now ∧ now ≤ 1152921504616846976 ∧ 0 ≤ fr ∧ fr ≤ 1152921504617846976 ∧ Hid (Sch wA b1 g1 every timeout up down now runs fr k wr)) (fun _ _ _ iv _ => n - (intOf iv).toNat)
    case atStart => exact ⟨0, 0, 0, false, by omega, rfl, rfl, rfl, rfl, by omega, by omega, by omega, by omega, HN⟩
    case round =>
      clear HN w1
      obtain ⟨k, now, fr, runs, hk, rfl, rfl, rfl, rfl, n0, n1, m0, m1, HT⟩ := hrel
      obtain ⟨last, x, ht, hch, l0, l1, xr, xf, x0, x1, r0, r1, t0, t1⟩ := HT.out
      have HST := Lib.hid ht
      have HCH := Lib.hid hch
      have HXF := Lib.hid xf
      clear ht hch HT xf
      by_cases hlt : k < n
      · obtain ⟨p, rfl, hx⟩ := (HS0.out.chg (HFA.out.trans (pChg.fresh HCH.out HNEW.out.2) (by simp)) (by simp)).2 (by omega)
        have hcell := hx k hlt
        clear hx
        generalize zs.getD k 0 = d at *
        have hk2 : (k : Int) ≤ 20000000000000 := by omega
        go_upto_region 10 with fail
        go_cut [48] (fun s48 wx => ∃ bb : Bool, s48 = .bool bb ∧ Hid (bb = true → 0 ≤ d ∧ d ≤ 10000000 ∧ now < 1152921504606846976) ∧ wx = wr)
        case first =>
          by_cases k1 : 0 ≤ d
          · by_cases k2 : d ≤ 10000000
            · by_cases k3 : now < 1152921504606846976
              · go_wp2_with fail
                go_meet
                exact ⟨true, by simp [*], Lib.hid (fun _ => ⟨k1, k2, k3⟩), rfl⟩
              · go_wp2_with fail
                go_meet
                exact ⟨false, by simp [*], Lib.hid (fun h => Bool.noConfusion h), rfl⟩
            · go_wp2_with fail
              go_meet
              exact ⟨false, by simp [*], Lib.hid (fun h => Bool.noConfusion h), rfl⟩
          · go_wp2_with fail
            go_meet
            exact ⟨false, by simp [*], Lib.hid (fun h => Bool.noConfusion h), rfl⟩
        case rest =>
        obtain ⟨bb, rfl, hbb, rfl⟩ := hcut
        go_upto_if 48 with fail
        go_cut [7] (fun s7 wx => ∃ n2 : Int, s7 = .int .i64 n2 ∧ now ≤ n2 ∧ n2 ≤ 1152921504616846976 ∧ wx = wc)
        case first =>
          cases bb
          · go_wp2_with fail
            go_meet
            exact ⟨now, rfl, by omega, n1, rfl⟩
          · obtain ⟨k1, k2, k3⟩ := hbb.out rfl
            go_wp2_with fail
            go_meet
            exact ⟨now + d, rfl, by omega, by omega, rfl⟩
        case rest =>
        obtain ⟨n2, rfl, q0, q1, rfl⟩ := hcut
        clear hbb
        go_wp2_with fail
        refine (due_any b1 g1 every timeout up down last n2 [x] _ HST.out (by simp) (by omega) (atOk_one x x0 (by omega)) (by omega) (by omega) (by omega)).mono ?_
        rintro e w2 ⟨h2, ⟨v2, rfl, o2, -⟩, b2, r2⟩
        have E2 := ran_one r2
        subst E2
        have B2 := Lib.hid b2
        have O2 := Lib.hid o2
        clear o2 b2 r2
        have e0c := (HBX.out.chg (HCH.out.trans B2.out.2 (fun i hi _ => hi)) HNEW.out.1).cell 0 _ rfl
        obtain ⟨sick, out, til, row, times⟩ := x
        dsimp only at xr x0 x1 r0 r1 t0 t1
        subst xr
        cases sick
        · obtain rfl : til = fr := HXF.out rfl
          by_cases h1 : til ≤ n2
          · by_cases h2 : 0 < every
            · have hh : hit false every timeout n2 ⟨false, out, til, row, times⟩ = true := by simp [hit, whenV, h1, h2]
              rw [idx_one_yes hh] at O2
              rw [hh, if_pos rfl] at B2
              replace B2 := Lib.hid (show Brought 83 85 b1 g1 every timeout up down n2 [⟨true, out, n2, row, times⟩] wc w2 from B2.out)
              obtain ⟨A2, c2, rfl⟩ := O2.out.form
              clear O2 hh
              generalize til = fr at *
              by_cases hodd : (k : Int) % 2 = 1
              · obtain ⟨y, z, hy⟩ : ∃ y z, ans every up down n2 ⟨true, out, n2, row, times⟩ (d.tmod 3 == 0) = (y, z) := ⟨_, _, rfl⟩
                obtain ⟨sy1, sy2, sy3, sy4, sy5, sy6⟩ := ans_shape hy r0 r1 t0 t1
                have sy7 : y.til = n2 + every := by
                  rw [sy2]
                  unfold tlate
                  rw [if_neg (by omega)]
                have HY := Lib.hid hy
                clear hy
                go_wp2_with fail
                refine (answer_any b1 g1 every timeout up down n2 n2 _ [⟨true, out, n2, row, times⟩] _ B2.out.1 (by simp) ⟨e0, e1⟩ (by omega) (by omega) (by omega) 0 ⟨true, out, n2, row, times⟩ y z rfl rfl r0 (by dsimp only; omega) t0 (by dsimp only; omega) HY.out).mono ?_
                rintro e w3 ⟨rfl, B3⟩
                have e0c := (HBX.out.chg ((HCH.out.trans B2.out.2 (fun i hi _ => hi)).trans B3.out.2 (fun i hi _ => hi)) HNEW.out.1).cell 0 _ rfl
                go_wp2_with fail
                go_roundw
                case rel => exact ⟨k + 1, n2, n2 + every, false, by omega, by go_num, rfl, rfl, by go_num, by omega, q1, by omega, by omega, n2, y, B3.out.1, (HCH.out.trans B2.out.2 (fun i hi _ => hi)).trans B3.out.2 (fun i hi _ => hi), by omega, by omega, sy1, fun _ => sy7, by omega, by omega, sy3, by push_cast; omega, sy5, by push_cast; omega⟩
                case measure => simp [intOf]; omega
              · have hodd' : ((k : Int) % 2 == 1) = false := beq_eq_false_iff_ne.2 hodd
                go_wp2_with fail
                go_roundw
                case rel => exact ⟨k + 1, n2, fr, true, by omega, by go_num, rfl, rfl, rfl, by omega, q1, m0, m1, n2, ⟨true, out, n2, row, times⟩, B2.out.1, HCH.out.trans B2.out.2 (fun i hi _ => hi), by omega, by omega, rfl, (fun h => Bool.noConfusion h), by dsimp only; omega, by dsimp only; omega, r0, by push_cast; omega, t0, by push_cast; omega⟩
                case measure => simp [intOf]; omega
            · have hh : hit false every timeout n2 ⟨false, out, til, row, times⟩ = false := by simp [hit, whenV, h1, h2]
              rw [idx_one_no hh] at O2
              rw [hh, if_neg (by simp)] at B2
              obtain ⟨A2, c2, rfl⟩ := O2.out.form
              clear O2 hh
              go_wp2_with fail
              go_roundw
              case rel => exact ⟨k + 1, n2, til, false, by omega, by go_num, rfl, rfl, rfl, by omega, q1, m0, m1, n2, ⟨false, out, til, row, times⟩, B2.out.1, HCH.out.trans B2.out.2 (fun i hi _ => hi), by omega, by omega, rfl, fun _ => rfl, x0, x1, r0, by push_cast; omega, t0, by push_cast; omega⟩
              case measure => simp [intOf]; omega
          · have hh : hit false every timeout n2 ⟨false, out, til, row, times⟩ = false := by simp [hit, whenV, h1]
            rw [idx_one_no hh] at O2
            rw [hh, if_neg (by simp)] at B2
            obtain ⟨A2, c2, rfl⟩ := O2.out.form
            clear O2 hh
            go_wp2_with fail
            go_roundw
            case rel => exact ⟨k + 1, n2, til, false, by omega, by go_num, rfl, rfl, rfl, by omega, q1, m0, m1, n2, ⟨false, out, til, row, times⟩, B2.out.1, HCH.out.trans B2.out.2 (fun i hi _ => hi), by omega, by omega, rfl, fun _ => rfl, x0, x1, r0, by push_cast; omega, t0, by push_cast; omega⟩
            case measure => simp [intOf]; omega
        · have hh : hit false every timeout n2 ⟨true, out, til, row, times⟩ = false := by simp [hit]
          rw [idx_one_no hh] at O2
          rw [hh, if_neg (by simp)] at B2
          obtain ⟨A2, c2, rfl⟩ := O2.out.form
          clear O2 hh
          by_cases hodd : (k : Int) % 2 = 1
          · obtain ⟨y, z, hy⟩ : ∃ y z, ans every up down n2 ⟨true, out, til, row, times⟩ (d.tmod 3 == 0) = (y, z) := ⟨_, _, rfl⟩
            obtain ⟨sy1, sy2, sy3, sy4, sy5, sy6⟩ := ans_shape hy r0 r1 t0 t1
            have sy7 : y.til = n2 + every := by
              rw [sy2]
              unfold tlate
              rw [if_neg (by omega)]
            have HY := Lib.hid hy
            clear hy
            go_wp2_with fail
            refine (answer_any b1 g1 every timeout up down n2 n2 _ [⟨true, out, til, row, times⟩] _ B2.out.1 (by simp) ⟨e0, e1⟩ (by omega) (by omega) (by omega) 0 ⟨true, out, til, row, times⟩ y z rfl rfl r0 (by dsimp only; omega) t0 (by dsimp only; omega) HY.out).mono ?_
            rintro e w3 ⟨rfl, B3⟩
            have e0c := (HBX.out.chg ((HCH.out.trans B2.out.2 (fun i hi _ => hi)).trans B3.out.2 (fun i hi _ => hi)) HNEW.out.1).cell 0 _ rfl
            go_wp2_with fail
            go_roundw
            case rel => exact ⟨k + 1, n2, n2 + every, false, by omega, by go_num, rfl, rfl, by go_num, by omega, q1, by omega, by omega, n2, y, B3.out.1, (HCH.out.trans B2.out.2 (fun i hi _ => hi)).trans B3.out.2 (fun i hi _ => hi), by omega, by omega, sy1, fun _ => sy7, by omega, by omega, sy3, by push_cast; omega, sy5, by push_cast; omega⟩
            case measure => simp [intOf]; omega
          · have hodd' : ((k : Int) % 2 == 1) = false := beq_eq_false_iff_ne.2 hodd
            go_wp2_with fail
            go_roundw
            case rel => exact ⟨k + 1, n2, fr, true, by omega, by go_num, rfl, rfl, rfl, by omega, q1, m0, m1, n2, ⟨true, out, til, row, times⟩, B2.out.1, HCH.out.trans B2.out.2 (fun i hi _ => hi), by omega, by omega, rfl, (fun h => Bool.noConfusion h), by dsimp only; omega, by dsimp only; omega, r0, by push_cast; omega, t0, by push_cast; omega⟩
            case measure => simp [intOf]; omega
      · go_wp2_with fail
        (refine (speaks19_any _).mono ?_)
        rintro e w3 ⟨rfl, HQ⟩
        go_wp2_with fail
        go_ret
        exact ⟨rfl, HBA.out _ ((pChg.fresh HCH.out HNEW.out.2).trans HQ.out (by simp)).below⟩
  · have hb1 := Lib.hid (fun w => pnew_bad 1 every timeout up down hg w)
    clear hg
    go_enter Try.func8, Try.ntmps8
    go_wp2_with fail
    refine (hb1.out _).mono ?_
    rintro e w1 ⟨rfl, H1⟩
    go_wp2_with fail
    (refine (speaks19_any _).mono ?_)
    rintro e w3 ⟨rfl, HQ⟩
    go_wp2_with fail
    go_ret
    exact ⟨rfl, palloc_below _ _ (H1.out.trans HQ.out (by simp)).below⟩
end Go.Proofs.Yteaepadamhmknaa
