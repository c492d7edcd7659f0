/- The walk of BudgetMore: two budgets told alike; one request more, and the door is no narrower. -/
import Derived.Test.YtgaggimkkoopfaaC5
namespace Go.Proofs.Ytgaggimkkoopfaa
open Go.RowKit
set_option linter.unusedVariables false
set_option maxHeartbeats 8000000 in
set_option maxRecDepth 100000 in
theorem budgetMore_walk (w : World) (p m win : Int) (wp : (Lit.int .i64 p).wf = true) (wm : (Lit.int .i64 m).wf = true) (ww : (Lit.int .i64 win).wf = true) (a : Option Addr) (n cap : Nat) (f : Nat → Nat → Int) (hf : Flat w a n 2 f) (hr : n * 16 ≤ 140737488351232) (hn : n ≤ 9223372036854775807) (now : Int) (wn : (Lit.int .i64 now).wf = true) :
    Calls Try.prog 12 #[.agg #[.int .i64 p, .int .i64 m, .int .i64 win], .slice a n cap, .int .i64 now] w fun e w' => e = .returned (.bool true) ∧ Below w.heap.size w w' := by
  have HF := Lib.hid hf
  have wnow := wfI wn
  clear hf hr wp wm ww wn
  by_cases h2 : 1000 < n
  · have h3 : (1000 : Int) < (n : Int) := by omega
    go_enter Try.func12, Try.ntmps12
    go_wp2_with (first | (go_at_call 25; (with_reducible refine (bspeaks _).mono ?_); rintro e w' ⟨rfl, hbel⟩))
    go_ret
    exact ⟨rfl, alloc_below _ _ hbel⟩
  have h3 : ¬ (1000 : Int) < (n : Int) := by omega
  have h4 : (n : Int) ≤ 1000 := by omega
  clear h2 h3
  by_cases hg : Good p m win
  · go_enter Try.func12, Try.ntmps12
    go_wp2_with fail
    refine (bnew_ok p m win _ hg).mono ?_
    rintro e w1 ⟨rfl, h1, hc1⟩
    have H1 := Lib.hid h1
    have HC1 := Lib.hid hc1
    have HA := Lib.hid ((Blk.new w [.int .i64 p, .int .i64 m, .int .i64 win] 42).chg hc1 (by simp))
    have c0 := HA.out.cell 0 _ rfl
    have c1 := HA.out.cell 1 _ rfl
    have c2 := HA.out.cell 2 _ rfl
    clear h1 hc1
    go_wp2_with fail
    refine (bnew_ok p m win _ hg).mono ?_
    rintro e w2 ⟨rfl, h1, hc1⟩
    have HC2 := Lib.hid hc1
    have H2 := Lib.hid h1
    clear h1 hc1 c0 c1 c2
    go_wp2_with fail
    have HN := Lib.hid (show Same (w.alloc (.cells #[.int .i64 p, .int .i64 m, .int .i64 win] 42)) (w.heap.size + 1) w1.heap.size p m win 0 w2 from by
      have e1 : (w.alloc (.cells #[.int .i64 p, .int .i64 m, .int .i64 win] 42)).heap.size = w.heap.size + 1 := by simp
      have s1 := HC1.out.size
      have l1 := H1.out.lt _ H1.out.mem
      have hh1 := H1.out
      rw [e1] at hh1 s1 l1
      exact ⟨0, [], [], [w.heap.size + 1], [w1.heap.size], hh1.frame HC2.out (by simp), H2.out, by simp; omega, by simp, by simp; omega, HC1.out.trans HC2.out (by simp), by omega, by omega, by simp, by simp⟩)
    have HA0 := Lib.hid (Blk.new w [.int .i64 p, .int .i64 m, .int .i64 win] 42)
    have HBA := Lib.hid ((Below.refl w.heap.size w).alloc (Nat.le_refl _) (.cells #[.int .i64 p, .int .i64 m, .int .i64 win] 42))
    have HFA := Lib.hid ((Chg.refl [] w).alloc (.cells #[.int .i64 p, .int .i64 m, .int .i64 win] 42))
    have hsz : (w.alloc (.cells #[.int .i64 p, .int .i64 m, .int .i64 win] 42)).heap.size = w.heap.size + 1 := by simp
    have HGD := Lib.hid hg
    clear hg HC1 HC2 H1 H2 HA
    have hn2 : n ≤ 1000 := by omega
    generalize w1.heap.size = b2 at *
    clear w1
    have HSZ := Lib.hid hsz
    clear hsz
    generalize hw0 : w.alloc (.cells #[.int .i64 p, .int .i64 m, .int .i64 win] 42) = wA at *
    clear hw0
    go_loopw [72] (fun i wr => ∃ (k : Nat), k ≤ n ∧ i = .int .i64 k ∧ Hid (Same wA (w.heap.size + 1) b2 p m win k wr)) (fun i _ => n - (intOf i).toNat)
    case atStart => exact ⟨0, by omega, rfl, HN⟩
    case round =>
      clear HN
      obtain ⟨k, hk, rfl, HB⟩ := hrel
      by_cases hlt : k < n
      · obtain ⟨b, o, rfl, hbl, hx⟩ := HF.out.2 (by omega)
        have f0 := hx k 0 hlt (by omega)
        have f1 := hx k 1 hlt (by omega)
        have v0 := wfI (HF.out.1 k 0 hlt (by omega))
        have v1 := wfI (HF.out.1 k 1 hlt (by omega))
        clear hx
        generalize f k 0 = kd at *
        generalize f k 1 = mo at *
        obtain ⟨last, q0, t0, HT, a0, a1, lq0, lt0⟩ := HB.out.duo kd mo
        have g0 : wr.cell? ⟨b, o + k * 2, none⟩ = some (.int .i64 kd) := HB.out.chg.cell (HFA.out.cell f0 (by simp)) (by simp)
        have g1 : wr.cell? ⟨b, o + k * 2 + 1, none⟩ = some (.int .i64 mo) := HB.out.chg.cell (HFA.out.cell f1 (by simp)) (by simp)
        clear f0 f1
        by_cases hbad : mo < 0 ∨ 4611686018427387904 < mo
        · rcases (show kd = 0 ∨ ((kd == 0) = false) by simp; omega) with rfl | k0
          · go_wp2_with (first | (go_at_call 30; (with_reducible refine (badmit_bad _ mo hbad _).mono ?_); rintro e w' ⟨rfl, rfl⟩))
            go_roundw
            case rel => exact ⟨k + 1, by omega, by go_num, HT.out.same a0 a1 (by omega) (by omega)⟩
            case measure => simp [intOf]; omega
          · go_wp2_with fail
            (refine (ballow_bad _ mo hbad _).mono ?_)
            rintro e w3 ⟨rfl, hc⟩
            replace HT := Lib.hid (HT.out.still hc)
            have c0 := HT.out.box.cell 0 _ rfl
            have c1 := HT.out.box.cell 1 _ rfl
            clear hc
            go_wp2_with fail
            (refine (ballow_bad _ mo hbad _).mono ?_)
            rintro e w3 ⟨rfl, hc⟩
            replace HT := Lib.hid (HT.out.still hc)
            have c0 := HT.out.box.cell 0 _ rfl
            have c1 := HT.out.box.cell 1 _ rfl
            clear hc
            go_wp2_with fail
            go_roundw
            case rel => exact ⟨k + 1, by omega, by go_num, HT.out.same a0 a1 (by omega) (by omega)⟩
            case measure => simp [intOf]; omega
        · obtain ⟨L, N, L0, L1⟩ : ∃ L, Hid (Num1 p m win last mo L) ∧ 0 ≤ L ∧ L ≤ 4611686018427387904 := by
            by_cases h : last < mo
            · exact ⟨mo, ⟨HGD.out.1, HGD.out.2.1, HGD.out.2.2.2.2.1, HGD.out.2.2.2.2.2, a0, a1, by omega, by omega, .inl ⟨rfl, h⟩⟩, by omega, by omega⟩
            · exact ⟨last, ⟨HGD.out.1, HGD.out.2.1, HGD.out.2.2.2.2.1, HGD.out.2.2.2.2.2, a0, a1, by omega, by omega, .inr ⟨rfl, by omega⟩⟩, by omega, by omega⟩
          clear hbad
          have lq := lateL_len q0 (L - win)
          have lt := lateL_len t0 (L - win)
          rcases (show kd = 0 ∨ ((kd == 0) = false) by simp; omega) with rfl | k0
          · go_wp2_with fail
            (refine (duo_a HT.out fun F hb => mov_admit hb N.out rfl rfl (by omega)).mono ?_)
            clear HT
            rintro e w3 ⟨rfl, HT⟩
            have c0 := HT.out.box.cell 0 _ rfl
            have c1 := HT.out.box.cell 1 _ rfl
            go_wp2_with fail
            (refine (duo_b HT.out fun F hb => mov_admit hb N.out rfl rfl (by omega)).mono ?_)
            clear HT
            rintro e w3 ⟨rfl, HT⟩
            have c0 := HT.out.box.cell 0 _ rfl
            have c1 := HT.out.box.cell 1 _ rfl
            go_wp2_with fail
            go_roundw
            case rel => exact ⟨k + 1, by omega, by go_num, HT.out.same L0 L1 (by simp; omega) (by omega)⟩
            case measure => simp [intOf]; omega
          · generalize hy : canB p m (lateL q0 (L - win)).length (lateL t0 (L - win)).length = y
            have HY := Lib.hid hy
            clear hy
            go_wp2_with fail
            (refine (duo_a HT.out fun F hb => mov_allow hb N.out rfl rfl (by omega) (by omega) y HY.out).mono ?_)
            clear HT
            rintro e w3 ⟨rfl, HT⟩
            have c0 := HT.out.box.cell 0 _ rfl
            have c1 := HT.out.box.cell 1 _ rfl
            go_wp2_with fail
            (refine (duo_b HT.out fun F hb => mov_allow hb N.out rfl rfl (by omega) (by omega) y HY.out).mono ?_)
            clear HT
            rintro e w3 ⟨rfl, HT⟩
            have c0 := HT.out.box.cell 0 _ rfl
            have c1 := HT.out.box.cell 1 _ rfl
            go_wp2_with fail
            go_roundw
            case rel => exact ⟨k + 1, by omega, by go_num, HT.out.same L0 L1 (by omega) (by cases y <;> simp <;> omega)⟩
            case measure => simp [intOf]; omega
      · obtain ⟨last, q0, t0, HT, a0, a1, lq0, lt0⟩ := HB.out.duo0 HA0.out
        by_cases hbad : now < 0 ∨ 4611686018427387904 < now
        · go_wp2_with (first | (go_at_call 30; (with_reducible refine (badmit_bad _ now hbad _).mono ?_); rintro e w' ⟨rfl, rfl⟩))
          (refine (bcan_bad _ now hbad _).mono ?_)
          rintro e w3 ⟨rfl, hc⟩
          replace HT := Lib.hid (HT.out.still hc)
          have c0 := HT.out.box.cell 0 _ rfl
          have c1 := HT.out.box.cell 1 _ rfl
          clear hc
          go_wp2_with fail
          (refine (bcan_bad _ now hbad _).mono ?_)
          rintro e w3 ⟨rfl, hc⟩
          replace HT := Lib.hid (HT.out.still hc)
          have c0 := HT.out.box.cell 0 _ rfl
          have c1 := HT.out.box.cell 1 _ rfl
          clear hc
          go_wp2_with (first | (go_at_call 25; (with_reducible refine (bspeaks _).mono ?_); rintro e w' ⟨rfl, hbel⟩))
          go_ret
          exact ⟨rfl, HBA.out.trans ((HT.out.chg.below.trans (hbel.mono HT.out.chg.size)).mono (by have := HSZ.out; omega))⟩
        · obtain ⟨L, N, N', hLw⟩ : ∃ L, Hid (Num1 p m win last now L) ∧ Hid (Num1 p m win L now L) ∧ L - win < L := by
            have := HGD.out.2.2.2.2.1
            by_cases h : last < now
            · exact ⟨now, ⟨HGD.out.1, HGD.out.2.1, HGD.out.2.2.2.2.1, HGD.out.2.2.2.2.2, a0, a1, by omega, by omega, .inl ⟨rfl, h⟩⟩, ⟨HGD.out.1, HGD.out.2.1, HGD.out.2.2.2.2.1, HGD.out.2.2.2.2.2, by omega, by omega, by omega, by omega, .inr ⟨rfl, by omega⟩⟩, by omega⟩
            · exact ⟨last, ⟨HGD.out.1, HGD.out.2.1, HGD.out.2.2.2.2.1, HGD.out.2.2.2.2.2, a0, a1, by omega, by omega, .inr ⟨rfl, by omega⟩⟩, ⟨HGD.out.1, HGD.out.2.1, HGD.out.2.2.2.2.1, HGD.out.2.2.2.2.2, by omega, by omega, by omega, by omega, .inr ⟨rfl, by omega⟩⟩, by omega⟩
          clear hbad
          have lq := lateL_len q0 (L - win)
          have lt := lateL_len t0 (L - win)
          have E1 := Lib.hid (lateL_push q0 (L - win) L hLw)
          have E2 := Lib.hid (lateL_idem t0 (L - win))
          obtain ⟨x, HX⟩ : ∃ x, Hid (canB p m (lateL q0 (L - win)).length (lateL t0 (L - win)).length = x) := ⟨_, rfl⟩
          obtain ⟨y, HY⟩ : ∃ y, Hid (canB p m (lateL q0 (L - win) ++ [L]).length (lateL t0 (L - win)).length = y) := ⟨_, rfl⟩
          have hxy : x = true → y = true := by
            intro hx
            have := can_more p m _ _ HGD.out.1 (HX.out.trans hx)
            rw [← HY.out]
            simpa using this
          clear hLw
          go_wp2_with fail
          (refine (duo_b HT.out fun F hb => mov_admit hb N.out rfl rfl (by omega)).mono ?_)
          clear HT
          rintro e w3 ⟨rfl, HT⟩
          have c0 := HT.out.box.cell 0 _ rfl
          have c1 := HT.out.box.cell 1 _ rfl
          go_wp2_with fail
          (refine (duo_a HT.out fun F hb => mov_can hb N.out rfl rfl (by omega)).mono ?_)
          clear HT
          rintro e w3 ⟨rfl, HT⟩
          have c0 := HT.out.box.cell 0 _ rfl
          have c1 := HT.out.box.cell 1 _ rfl
          rw [HX.out]
          go_wp2_with fail
          (refine (duo_b HT.out fun F hb => mov_can hb N'.out E1.out E2.out (by simp; omega)).mono ?_)
          clear HT
          rintro e w3 ⟨rfl, HT⟩
          have c0 := HT.out.box.cell 0 _ rfl
          have c1 := HT.out.box.cell 1 _ rfl
          rw [HY.out]
          cases x
          · clear hxy
            go_wp2_with (first | (go_at_call 25; (with_reducible refine (bspeaks _).mono ?_); rintro e w' ⟨rfl, hbel⟩))
            go_ret
            exact ⟨rfl, HBA.out.trans ((HT.out.chg.below.trans (hbel.mono HT.out.chg.size)).mono (by have := HSZ.out; omega))⟩
          · obtain rfl := hxy rfl
            clear hxy
            go_wp2_with (first | (go_at_call 25; (with_reducible refine (bspeaks _).mono ?_); rintro e w' ⟨rfl, hbel⟩))
            go_ret
            exact ⟨rfl, HBA.out.trans ((HT.out.chg.below.trans (hbel.mono HT.out.chg.size)).mono (by have := HSZ.out; omega))⟩
  · have hb1 := Lib.hid (fun w => bnew_bad p m win w hg)
    clear hg
    go_enter Try.func12, Try.ntmps12
    go_wp2_with (first | (go_at_call 26; (with_reducible refine (hb1.out _).mono ?_); rintro e w' ⟨rfl, rfl⟩) | (go_at_call 25; (with_reducible refine (bspeaks _).mono ?_); rintro e w' ⟨rfl, hbel⟩))
    go_ret
    exact ⟨rfl, alloc_below _ _ hbel⟩
end Go.Proofs.Ytgaggimkkoopfaa
