/- The walk of ProbeTurns. -/
import Derived.Test.YteaepadamhmknaaP6
import Derived.Test.YteaepadamhmknaaG
namespace Go.Proofs.Yteaepadamhmknaa
open Go.RowKit
set_option linter.unusedVariables false
/-- The schedule of one host ahead of a turn. -/
def Trn (w0 : World) (b g : Nat) (every timeout up down now : Int) (healthy last : Bool) (row : Int) (k : Nat) (w : World) : Prop :=
  ∃ lst x, Hst 83 85 w b g every timeout up down lst [x] ∧ Chg [b, g] w0 w ∧ lst ≤ now ∧ x.sick = false ∧ x.til = now ∧ x.out = (!healthy) ∧ ((k = 0 ∧ x.row = 0 ∧ x.times = 0) ∨ (0 < k ∧ last = true ∧ x.row = row ∧ x.times = 0) ∨ (0 < k ∧ last = false ∧ x.times = row ∧ x.row = 0)) ∧ 0 ≤ x.row ∧ x.row ≤ k ∧ 0 ≤ x.times ∧ x.times ≤ k
set_option maxHeartbeats 16000000 in
set_option maxRecDepth 100000 in
theorem probeTurns_walk (w : World) (every timeout up down : Int) (w1 : (Lit.int .i64 every).wf = true) (w2 : (Lit.int .i64 timeout).wf = true) (w3 : (Lit.int .i64 up).wf = true) (w4 : (Lit.int .i64 down).wf = true)
    (a : Option Addr) (n cap : Nat) (f : Nat → Bool) (hn : n ≤ 140737488351232) (hf : Bools w a n f) :
    Calls Try.prog 9 #[.agg #[.int .i64 every, .int .i64 timeout, .int .i64 up, .int .i64 down], .slice a n cap] w fun e w' => e = .returned (.bool true) ∧ Below w.heap.size w w' := by
  have HS0 := Lib.hid hf
  clear hf w1 w2 w3 w4
  by_cases hg : PGood 1 every timeout up down
  · by_cases hev : every = 0
    · subst hev
      go_enter Try.func9, Try.ntmps9
      go_wp2_with fail
      refine (pnew_ok 1 0 timeout up down _ hg).mono ?_
      rintro e w1 ⟨b1, g1, rfl, hb1, hg1, hst1, hch1⟩
      have c0 := ((Blk.new w [.int .i64 0, .int .i64 timeout, .int .i64 up, .int .i64 down] 51).chg hch1 (by simp)).cell 0 _ rfl
      have HC := Lib.hid hch1
      clear hb1 hg1 hst1 hch1
      go_wp2_with fail
      (refine (speaks19_any _).mono ?_)
      rintro e w3 ⟨rfl, HQ⟩
      go_wp2_with fail
      go_ret
      exact ⟨rfl, palloc_below w _ (HC.out.trans HQ.out (by simp)).below⟩
    have hev2 : (every == 0) = false := beq_eq_false_iff_ne.2 hev
    go_enter Try.func9, Try.ntmps9
    go_wp2_with fail
    refine (pnew_ok 1 every timeout up down _ hg).mono ?_
    rintro e w1 ⟨b1, g1, rfl, hb1, hg1, hst1, hch1⟩
    obtain ⟨-, ⟨e0, e1⟩, ⟨p0, p1⟩, ⟨u0, u1⟩, ⟨v0, v1⟩⟩ := hg
    have hev3 : 0 < every := by omega
    have HBX := Lib.hid (Blk.new w [.int .i64 every, .int .i64 timeout, .int .i64 up, .int .i64 down] 51)
    have HN := Lib.hid (show Trn (w.alloc (.cells #[.int .i64 every, .int .i64 timeout, .int .i64 up, .int .i64 down] 51)) b1 g1 every timeout up down 0 true false 0 0 w1 from
      ⟨0, fresh, hst1, hch1.mono (by simp), by omega, rfl, rfl, rfl, .inl ⟨rfl, rfl, rfl⟩, by decide, by decide, by decide, by decide⟩)
    have HNEW := Lib.hid (show w.heap.size ∉ [b1, g1] ∧ ∀ i, i ∈ [b1, g1] → (w.alloc (.cells #[.int .i64 every, .int .i64 timeout, .int .i64 up, .int .i64 down] 51)).heap.size ≤ i from by
      have hsz : (w.alloc (.cells #[.int .i64 every, .int .i64 timeout, .int .i64 up, .int .i64 down] 51)).heap.size = w.heap.size + 1 := by simp
      refine ⟨?_, fun i hi => ?_⟩
      · simp only [List.mem_cons, List.not_mem_nil, or_false]
        omega
      · simp only [List.mem_cons, List.not_mem_nil, or_false] at hi
        omega)
    have HFA := Lib.hid ((Chg.refl [] w).alloc (.cells #[.int .i64 every, .int .i64 timeout, .int .i64 up, .int .i64 down] 51))
    have HBA := Lib.hid (fun (w' : World) (h : Below (w.alloc (.cells #[.int .i64 every, .int .i64 timeout, .int .i64 up, .int .i64 down] 51)).heap.size (w.alloc (.cells #[.int .i64 every, .int .i64 timeout, .int .i64 up, .int .i64 down] 51)) w') => palloc_below w _ h)
    have e0c := (HBX.out.chg hch1 (by simp)).cell 0 _ rfl
    clear hb1 hg1 hst1 hch1
    generalize w.alloc (.cells #[.int .i64 every, .int .i64 timeout, .int .i64 up, .int .i64 down] 51) = wA at *
    go_wp2_with fail
    clear e0c
    go_loopw [7, 8, 9, 10, 37] (fun nv hv rv lv iv wr => ∃ (k : Nat) (now : Int) (healthy : Bool) (row : Int) (last : Bool), k ≤ n ∧ iv = .int .i64 k ∧ nv = .int .i64 now ∧ hv = .bool healthy ∧ rv = .int .i64 row ∧ lv = .bool last ∧ 0 ≤ now ∧ now ≤ 1152921504606846976 ∧ Hid (Trn wA b1 g1 every timeout up down now healthy last row k wr)) (fun _ _ _ _ iv _ => n - (intOf iv).toNat)
    case atStart => exact ⟨0, 0, true, 0, false, by omega, rfl, rfl, rfl, rfl, rfl, by omega, by omega, HN⟩
    case round =>
      clear HN w1
      obtain ⟨k, now, healthy, row0, last, hk, rfl, rfl, rfl, rfl, rfl, n0, n1, HT⟩ := hrel
      obtain ⟨lst, x, ht, hch, l1, xr, xt, xo, xrel, r0, r1, t0, t1⟩ := HT.out
      have HST := Lib.hid ht
      have HCH := Lib.hid hch
      clear ht hch HT
      by_cases hlt : k < n
      · obtain ⟨p, rfl, hx⟩ := HS0.out (by omega)
        have hcell0 := hx k hlt
        have hcell : wr.cell? (p.add k) = some (.bool (f k)) := (HFA.out.trans (pChg.fresh HCH.out HNEW.out.2) (by simp)).cell hcell0 (by simp)
        clear hx hcell0
        generalize f k = okb at *
        have hk2 : (k : Int) ≤ 140737488351232 := by omega
        obtain ⟨sick, out, til, row, times⟩ := x
        dsimp only at xr xt xo xrel r0 r1 t0 t1
        subst xr xt xo
        go_wp2_with fail
        refine (due_any b1 g1 every timeout up down lst til _ _ HST.out (by simp) (by omega) (atOk_one _ n0 (by dsimp only; omega)) n0 (by omega) l1).mono ?_
        rintro e w2 ⟨h2, ⟨v2, rfl, o2, -⟩, b2, r2⟩
        have hh : hit false every timeout til ⟨false, !healthy, til, row, times⟩ = true := by simp [hit, whenV, hev3]
        have E2 := ran_one r2
        rw [hh, if_pos rfl] at E2
        subst E2
        rw [idx_one_yes hh] at o2
        have B2 := Lib.hid (show Brought 83 85 b1 g1 every timeout up down til [⟨true, !healthy, til, row, times⟩] wr w2 from b2)
        obtain ⟨A2, c2, rfl⟩ := o2.form
        clear o2 b2 r2 hh HST
        generalize til = now at *
        have hbx2 := HBX.out.chg (HCH.out.trans B2.out.2 (fun i hi _ => hi)) HNEW.out.1
        have e2c := hbx2.cell 2 _ rfl
        have e3c := hbx2.cell 3 _ rfl
        have XREL := Lib.hid xrel
        clear xrel hbx2 hcell
        go_upto_region 14 with fail
        go_cut [61] (fun s61 wx => ∃ bb : Bool, s61 = .bool bb ∧ Hid (bb = false → 0 < k ∧ okb = last) ∧ Hid (bb = true → k = 0 ∨ okb ≠ last) ∧ wx = w2)
        case first =>
          by_cases hk0 : k = 0
          · subst hk0
            go_wp2_with fail
            go_meet
            exact ⟨true, rfl, Lib.hid (fun h => Bool.noConfusion h), Lib.hid (fun _ => .inl (by first | rfl | trivial)), rfl⟩
          · have hk0' : ((k : Int) == 0) = false := beq_eq_false_iff_ne.2 (by omega)
            have hkp : 0 < k := by omega
            cases okb <;> cases last
            all_goals
              go_wp2_with fail
              go_meet
              first
              | exact ⟨true, rfl, Lib.hid (fun h => Bool.noConfusion h), Lib.hid (fun _ => .inr (by decide)), rfl⟩
              | exact ⟨false, rfl, Lib.hid (fun _ => ⟨hkp, by first | rfl | trivial⟩), Lib.hid (fun h => Bool.noConfusion h), rfl⟩
        case rest =>
        obtain ⟨bb, rfl, hb1, hb2, rfl⟩ := hcut
        go_upto_if 61 with fail
        go_cut [9] (fun s9 wx => ∃ rr : Int, s9 = .int .i64 rr ∧ Hid (rr = if okb = true then row else times) ∧ wx = wc)
        case first =>
          cases bb
          · obtain ⟨kp, hol⟩ := hb1.out rfl
            have hrr : row0 = if okb = true then row else times := by
              rcases XREL.out with ⟨h, _⟩ | ⟨_, h1, h2, h3⟩ | ⟨_, h1, h2, h3⟩
              · omega
              · rw [hol, h1, if_pos rfl, h2]
              · rw [hol, h1, if_neg (by simp), h2]
            have HRR := Lib.hid hrr
            clear hrr hol
            go_wp2_with fail
            go_meet
            exact ⟨row0, rfl, HRR, rfl⟩
          · have hrr : (0 : Int) = if okb = true then row else times := by
              rcases XREL.out with ⟨_, h1, h2⟩ | ⟨kp, h1, h2, h3⟩ | ⟨kp, h1, h2, h3⟩
              · rw [h1, h2]; simp
              · rcases hb2.out rfl with h | h
                · omega
                · have : okb = false := by
                    cases okb with
                    | false => rfl
                    | true => exact absurd h1.symm h
                  rw [this, if_neg (by simp), h3]
              · rcases hb2.out rfl with h | h
                · omega
                · have : okb = true := by
                    cases okb with
                    | true => rfl
                    | false => exact absurd h1.symm h
                  rw [this, if_pos rfl, h3]
            have HRR := Lib.hid hrr
            clear hrr
            go_wp2_with fail
            go_meet
            exact ⟨0, rfl, HRR, rfl⟩
        case rest =>
        obtain ⟨rr, rfl, HRR, rfl⟩ := hcut
        have hT : tlate now every = now + every := by
          unfold tlate
          rw [if_neg (by omega)]
        clear hb1 hb2 XREL
        cases okb
        · have er : times = rr := by
            have := HRR.out
            rw [if_neg (by simp)] at this
            exact this.symm
          subst er
          clear HRR
          cases healthy
          · skip
            have hy : ans every up down now ⟨true, !false, now, row, times⟩ false = (⟨false, true, now + every, 0, times + 1⟩, 0) := by
              unfold ans
              rw [if_neg (by simp), if_neg (by simp), hT]
              rfl
            have HY := Lib.hid hy
            clear hy
            go_wp2_with fail
            refine (answer_any b1 g1 every timeout up down now now _ [⟨true, _, now, row, times⟩] _ B2.out.1 (by simp) ⟨e0, e1⟩ (by omega) (by omega) (by omega) 0 ⟨true, _, now, row, times⟩ ⟨false, true, now + every, 0, times + 1⟩ 0 rfl rfl r0 (by dsimp only; omega) t0 (by dsimp only; omega) HY.out).mono ?_
            rintro e w3 ⟨rfl, B3⟩
            have HCW := Lib.hid ((HCH.out.trans B2.out.2 (fun i hi _ => hi)).trans B3.out.2 (fun i hi _ => hi))
            have e0c := (HBX.out.chg HCW.out HNEW.out.1).cell 0 _ rfl
            go_wp2_with fail
            refine (healthy_any b1 g1 every timeout up down now [⟨false, true, now + every, 0, times + 1⟩] _ B3.out.1 0 ⟨false, true, now + every, 0, times + 1⟩ rfl).mono ?_
            rintro e w4 ⟨rfl, rfl⟩
            by_cases hend : 1152921504606846976 < now + every
            · go_wp2_with fail
              (refine (speaks19_any _).mono ?_)
              rintro e w3 ⟨rfl, HQ⟩
              go_wp2_with fail
              go_ret
              exact ⟨rfl, HBA.out _ ((pChg.fresh HCW.out HNEW.out.2).trans HQ.out (by simp)).below⟩
            · go_wp2_with fail
              go_roundw
              case rel => exact ⟨k + 1, now + every, false, (times + 1), false, by omega, by go_num, by go_num, rfl, by go_num, rfl, by omega, by omega, now, ⟨false, true, now + every, 0, times + 1⟩, B3.out.1, HCW.out, by omega, rfl, rfl, rfl, .inr (.inr ⟨by omega, rfl, rfl, rfl⟩), by dsimp only; omega, by push_cast; omega, by dsimp only; omega, by push_cast; omega⟩
              case measure => simp [intOf]; omega
          · by_cases hu : down ≤ times + 1
            · skip
              have hy : ans every up down now ⟨true, !true, now, row, times⟩ false = (⟨false, true, now + every, 0, times + 1⟩, 2) := by
                unfold ans
                rw [if_neg (by simp), if_pos ⟨rfl, hu⟩, hT]
              have HY := Lib.hid hy
              clear hy
              go_wp2_with fail
              refine (answer_any b1 g1 every timeout up down now now _ [⟨true, _, now, row, times⟩] _ B2.out.1 (by simp) ⟨e0, e1⟩ (by omega) (by omega) (by omega) 0 ⟨true, _, now, row, times⟩ ⟨false, true, now + every, 0, times + 1⟩ 2 rfl rfl r0 (by dsimp only; omega) t0 (by dsimp only; omega) HY.out).mono ?_
              rintro e w3 ⟨rfl, B3⟩
              have HCW := Lib.hid ((HCH.out.trans B2.out.2 (fun i hi _ => hi)).trans B3.out.2 (fun i hi _ => hi))
              have e0c := (HBX.out.chg HCW.out HNEW.out.1).cell 0 _ rfl
              go_wp2_with fail
              refine (healthy_any b1 g1 every timeout up down now [⟨false, true, now + every, 0, times + 1⟩] _ B3.out.1 0 ⟨false, true, now + every, 0, times + 1⟩ rfl).mono ?_
              rintro e w4 ⟨rfl, rfl⟩
              by_cases hend : 1152921504606846976 < now + every
              · go_wp2_with fail
                (refine (speaks19_any _).mono ?_)
                rintro e w3 ⟨rfl, HQ⟩
                go_wp2_with fail
                go_ret
                exact ⟨rfl, HBA.out _ ((pChg.fresh HCW.out HNEW.out.2).trans HQ.out (by simp)).below⟩
              · go_wp2_with fail
                go_roundw
                case rel => exact ⟨k + 1, now + every, false, (times + 1), false, by omega, by go_num, by go_num, rfl, by go_num, rfl, by omega, by omega, now, ⟨false, true, now + every, 0, times + 1⟩, B3.out.1, HCW.out, by omega, rfl, rfl, rfl, .inr (.inr ⟨by omega, rfl, rfl, rfl⟩), by dsimp only; omega, by push_cast; omega, by dsimp only; omega, by push_cast; omega⟩
                case measure => simp [intOf]; omega
            · skip
              have hy : ans every up down now ⟨true, !true, now, row, times⟩ false = (⟨false, false, now + every, 0, times + 1⟩, 0) := by
                unfold ans
                rw [if_neg (by simp), if_neg (fun h => hu h.2), hT]
                rfl
              have HY := Lib.hid hy
              clear hy
              go_wp2_with fail
              refine (answer_any b1 g1 every timeout up down now now _ [⟨true, _, now, row, times⟩] _ B2.out.1 (by simp) ⟨e0, e1⟩ (by omega) (by omega) (by omega) 0 ⟨true, _, now, row, times⟩ ⟨false, false, now + every, 0, times + 1⟩ 0 rfl rfl r0 (by dsimp only; omega) t0 (by dsimp only; omega) HY.out).mono ?_
              rintro e w3 ⟨rfl, B3⟩
              have HCW := Lib.hid ((HCH.out.trans B2.out.2 (fun i hi _ => hi)).trans B3.out.2 (fun i hi _ => hi))
              have e0c := (HBX.out.chg HCW.out HNEW.out.1).cell 0 _ rfl
              go_wp2_with fail
              refine (healthy_any b1 g1 every timeout up down now [⟨false, false, now + every, 0, times + 1⟩] _ B3.out.1 0 ⟨false, false, now + every, 0, times + 1⟩ rfl).mono ?_
              rintro e w4 ⟨rfl, rfl⟩
              by_cases hend : 1152921504606846976 < now + every
              · go_wp2_with fail
                (refine (speaks19_any _).mono ?_)
                rintro e w3 ⟨rfl, HQ⟩
                go_wp2_with fail
                go_ret
                exact ⟨rfl, HBA.out _ ((pChg.fresh HCW.out HNEW.out.2).trans HQ.out (by simp)).below⟩
              · go_wp2_with fail
                go_roundw
                case rel => exact ⟨k + 1, now + every, true, (times + 1), false, by omega, by go_num, by go_num, rfl, by go_num, rfl, by omega, by omega, now, ⟨false, false, now + every, 0, times + 1⟩, B3.out.1, HCW.out, by omega, rfl, rfl, rfl, .inr (.inr ⟨by omega, rfl, rfl, rfl⟩), by dsimp only; omega, by push_cast; omega, by dsimp only; omega, by push_cast; omega⟩
                case measure => simp [intOf]; omega
        · have er : row = rr := by
            have := HRR.out
            rw [if_pos rfl] at this
            exact this.symm
          subst er
          clear HRR
          cases healthy
          · by_cases hu : up ≤ row + 1
            · skip
              have hy : ans every up down now ⟨true, !false, now, row, times⟩ true = (⟨false, false, now + every, row + 1, 0⟩, 1) := by
                unfold ans
                rw [if_pos rfl, if_pos ⟨rfl, hu⟩, hT]
              have HY := Lib.hid hy
              clear hy
              go_wp2_with fail
              refine (answer_any b1 g1 every timeout up down now now _ [⟨true, _, now, row, times⟩] _ B2.out.1 (by simp) ⟨e0, e1⟩ (by omega) (by omega) (by omega) 0 ⟨true, _, now, row, times⟩ ⟨false, false, now + every, row + 1, 0⟩ 1 rfl rfl r0 (by dsimp only; omega) t0 (by dsimp only; omega) HY.out).mono ?_
              rintro e w3 ⟨rfl, B3⟩
              have HCW := Lib.hid ((HCH.out.trans B2.out.2 (fun i hi _ => hi)).trans B3.out.2 (fun i hi _ => hi))
              have e0c := (HBX.out.chg HCW.out HNEW.out.1).cell 0 _ rfl
              go_wp2_with fail
              refine (healthy_any b1 g1 every timeout up down now [⟨false, false, now + every, row + 1, 0⟩] _ B3.out.1 0 ⟨false, false, now + every, row + 1, 0⟩ rfl).mono ?_
              rintro e w4 ⟨rfl, rfl⟩
              by_cases hend : 1152921504606846976 < now + every
              · go_wp2_with fail
                (refine (speaks19_any _).mono ?_)
                rintro e w3 ⟨rfl, HQ⟩
                go_wp2_with fail
                go_ret
                exact ⟨rfl, HBA.out _ ((pChg.fresh HCW.out HNEW.out.2).trans HQ.out (by simp)).below⟩
              · go_wp2_with fail
                go_roundw
                case rel => exact ⟨k + 1, now + every, true, (row + 1), true, by omega, by go_num, by go_num, rfl, by go_num, rfl, by omega, by omega, now, ⟨false, false, now + every, row + 1, 0⟩, B3.out.1, HCW.out, by omega, rfl, rfl, rfl, .inr (.inl ⟨by omega, rfl, rfl, rfl⟩), by dsimp only; omega, by push_cast; omega, by dsimp only; omega, by push_cast; omega⟩
                case measure => simp [intOf]; omega
            · skip
              have hy : ans every up down now ⟨true, !false, now, row, times⟩ true = (⟨false, true, now + every, row + 1, 0⟩, 0) := by
                unfold ans
                rw [if_pos rfl, if_neg (fun h => hu h.2), hT]
                rfl
              have HY := Lib.hid hy
              clear hy
              go_wp2_with fail
              refine (answer_any b1 g1 every timeout up down now now _ [⟨true, _, now, row, times⟩] _ B2.out.1 (by simp) ⟨e0, e1⟩ (by omega) (by omega) (by omega) 0 ⟨true, _, now, row, times⟩ ⟨false, true, now + every, row + 1, 0⟩ 0 rfl rfl r0 (by dsimp only; omega) t0 (by dsimp only; omega) HY.out).mono ?_
              rintro e w3 ⟨rfl, B3⟩
              have HCW := Lib.hid ((HCH.out.trans B2.out.2 (fun i hi _ => hi)).trans B3.out.2 (fun i hi _ => hi))
              have e0c := (HBX.out.chg HCW.out HNEW.out.1).cell 0 _ rfl
              go_wp2_with fail
              refine (healthy_any b1 g1 every timeout up down now [⟨false, true, now + every, row + 1, 0⟩] _ B3.out.1 0 ⟨false, true, now + every, row + 1, 0⟩ rfl).mono ?_
              rintro e w4 ⟨rfl, rfl⟩
              by_cases hend : 1152921504606846976 < now + every
              · go_wp2_with fail
                (refine (speaks19_any _).mono ?_)
                rintro e w3 ⟨rfl, HQ⟩
                go_wp2_with fail
                go_ret
                exact ⟨rfl, HBA.out _ ((pChg.fresh HCW.out HNEW.out.2).trans HQ.out (by simp)).below⟩
              · go_wp2_with fail
                go_roundw
                case rel => exact ⟨k + 1, now + every, false, (row + 1), true, by omega, by go_num, by go_num, rfl, by go_num, rfl, by omega, by omega, now, ⟨false, true, now + every, row + 1, 0⟩, B3.out.1, HCW.out, by omega, rfl, rfl, rfl, .inr (.inl ⟨by omega, rfl, rfl, rfl⟩), by dsimp only; omega, by push_cast; omega, by dsimp only; omega, by push_cast; omega⟩
                case measure => simp [intOf]; omega
          · skip
            have hy : ans every up down now ⟨true, !true, now, row, times⟩ true = (⟨false, false, now + every, row + 1, 0⟩, 0) := by
              unfold ans
              rw [if_pos rfl, if_neg (by simp), hT]
              rfl
            have HY := Lib.hid hy
            clear hy
            go_wp2_with fail
            refine (answer_any b1 g1 every timeout up down now now _ [⟨true, _, now, row, times⟩] _ B2.out.1 (by simp) ⟨e0, e1⟩ (by omega) (by omega) (by omega) 0 ⟨true, _, now, row, times⟩ ⟨false, false, now + every, row + 1, 0⟩ 0 rfl rfl r0 (by dsimp only; omega) t0 (by dsimp only; omega) HY.out).mono ?_
            rintro e w3 ⟨rfl, B3⟩
            have HCW := Lib.hid ((HCH.out.trans B2.out.2 (fun i hi _ => hi)).trans B3.out.2 (fun i hi _ => hi))
            have e0c := (HBX.out.chg HCW.out HNEW.out.1).cell 0 _ rfl
            go_wp2_with fail
            refine (healthy_any b1 g1 every timeout up down now [⟨false, false, now + every, row + 1, 0⟩] _ B3.out.1 0 ⟨false, false, now + every, row + 1, 0⟩ rfl).mono ?_
            rintro e w4 ⟨rfl, rfl⟩
            by_cases hend : 1152921504606846976 < now + every
            · go_wp2_with fail
              (refine (speaks19_any _).mono ?_)
              rintro e w3 ⟨rfl, HQ⟩
              go_wp2_with fail
              go_ret
              exact ⟨rfl, HBA.out _ ((pChg.fresh HCW.out HNEW.out.2).trans HQ.out (by simp)).below⟩
            · go_wp2_with fail
              go_roundw
              case rel => exact ⟨k + 1, now + every, true, (row + 1), true, by omega, by go_num, by go_num, rfl, by go_num, rfl, by omega, by omega, now, ⟨false, false, now + every, row + 1, 0⟩, B3.out.1, HCW.out, by omega, rfl, rfl, rfl, .inr (.inl ⟨by omega, rfl, rfl, rfl⟩), by dsimp only; omega, by push_cast; omega, by dsimp only; omega, by push_cast; omega⟩
              case measure => simp [intOf]; omega
      · go_wp2_with fail
        (refine (speaks19_any _).mono ?_)
        rintro e w3 ⟨rfl, HQ⟩
        go_wp2_with fail
        go_ret
        exact ⟨rfl, HBA.out _ ((pChg.fresh HCH.out HNEW.out.2).trans HQ.out (by simp)).below⟩
  · have hb1 := Lib.hid (fun w => pnew_bad 1 every timeout up down hg w)
    clear hg
    go_enter Try.func9, Try.ntmps9
    go_wp2_with fail
    refine (hb1.out _).mono ?_
    rintro e w1 ⟨rfl, H1⟩
    go_wp2_with fail
    (refine (speaks19_any _).mono ?_)
    rintro e w3 ⟨rfl, HQ⟩
    go_wp2_with fail
    go_ret
    exact ⟨rfl, palloc_below _ _ (H1.out.trans HQ.out (by simp)).below⟩
end Go.Proofs.Yteaepadamhmknaa
