/- The walk of BudgetSteps: every step answers alike in the program and in the reference. -/
import Derived.Test.YtgaggimkkoopfaaC3
namespace Go.Proofs.Ytgaggimkkoopfaa
open Go.RowKit
set_option linter.unusedVariables false
theorem quiet_same {P : Program} {f : FuncId} {args : Array Value} {w : World} {n : Nat} {v : Value}
    (h : Calls P f args (w.drewN n) fun e w' => e = .returned v ∧ w.drewN n = w') : Calls P f args (w.drewN n) fun e w'' => e = .returned v ∧ ∃ m, w'' = w.drewN m :=
  h.mono fun _ _ ⟨he, hm⟩ => ⟨he, n, hm.symm⟩
/-- The numbers of a good budget. -/
def Good (p m win : Int) : Prop := 0 ≤ p ∧ p ≤ 100 ∧ 0 ≤ m ∧ m ≤ 1000 ∧ 1 ≤ win ∧ win ≤ 1000000
/-- Both budgets side by side, alike: what each has seen, and that they are newer than w0. -/
def Base (w0 : World) (b1 b2 : Nat) (p m win : Int) (k : Nat) (w : World) : Prop :=
  ∃ (last : Int) (rq rt RQ RT : List Int) (F1 F2 : List Nat), BSt w b1 p m win last rq rt F1 ∧ RSt w b2 p m win last RQ RT F2 ∧ (∀ i, i ∈ F1 → i ∉ F2) ∧ (∀ i, i ∈ F1 → w0.heap.size ≤ i) ∧ (∀ i, i ∈ F2 → w0.heap.size ≤ i) ∧ Chg [] w0 w ∧ PR win last rq RQ ∧ PR win last rt RT ∧ 0 ≤ last ∧ last ≤ 4611686018427387904 ∧ RQ.length ≤ k ∧ RT.length ≤ k
/-- What is known of the two in the midst of a round. -/
def Mid (win last : Int) (rq rt RQ RT : List Int) (k : Nat) : Prop :=
  PR win last rq RQ ∧ PR win last rt RT ∧ 0 ≤ last ∧ last ≤ 4611686018427387904 ∧ RQ.length ≤ k ∧ RT.length ≤ k
theorem Base.two {w0 w : World} {b1 b2 : Nat} {p m win : Int} {k : Nat} (h : Base w0 b1 b2 p m win k w) (kd nw : Int) :
    ∃ last rq rt RQ RT, Hid (Two w0 b1 b2 w.heap.size p m win kd nw last rq rt last RQ RT (w.alloc (.cells #[.int .i64 kd, .int .i64 nw] 51))) ∧ Hid (Mid win last rq rt RQ RT k) := by
  obtain ⟨last, rq, rt, RQ, RT, F1, F2, h1, h2, h3, h4, h5, h6, h7, h8, h9, ha, hb, hc⟩ := h
  refine ⟨last, rq, rt, RQ, RT, ⟨F1, F2, h1.frame ((Chg.refl [] w).alloc _) (by simp), h2.frame ((Chg.refl [] w).alloc _) (by simp), Blk.new w [.int .i64 kd, .int .i64 nw] 51, h3, h4, h5, fun hs => ?_, fun hs => ?_, h6.alloc _⟩, h7, h8, h9, ha, hb, hc⟩
  · have := h1.lt _ hs; omega
  · have := h2.lt _ hs; omega
theorem Base.chg {w0 w : World} {b1 b2 : Nat} {p m win : Int} {k : Nat} (h : Base w0 b1 b2 p m win k w) : Chg [] w0 w := by
  obtain ⟨last, rq, rt, RQ, RT, F1, F2, h1, h2, h3, h4, h5, h6, h7⟩ := h
  exact h6
theorem Two.base {w0 w : World} {b1 b2 sb : Nat} {p m win kd nw last : Int} {rq rt RQ RT : List Int} {k : Nat} (h : Two w0 b1 b2 sb p m win kd nw last rq rt last RQ RT w) (hm : Mid win last rq rt RQ RT k) : Hid (Base w0 b1 b2 p m win k w) := by
  obtain ⟨F1, F2, h1, h2, h3, h4, h5, h6, h7, h8, h9⟩ := h
  obtain ⟨g1, g2, g3, g4, g5, g6⟩ := hm
  exact ⟨last, rq, rt, RQ, RT, F1, F2, h1, h2, h4, h5, h6, h9, g1, g2, g3, g4, g5, g6⟩
theorem Mid.up {win last : Int} {rq rt RQ RT : List Int} {k j : Nat} (h : Mid win last rq rt RQ RT k) (hj : k ≤ j) : Mid win last rq rt RQ RT j := by
  obtain ⟨g1, g2, g3, g4, g5, g6⟩ := h
  exact ⟨g1, g2, g3, g4, by omega, by omega⟩
/-- The moment of a call brings both to the later of the two moments, and they stay alike. -/
theorem Mid.bring {win last now : Int} {rq rt RQ RT : List Int} {k : Nat} (h : Mid win last rq rt RQ RT k) (n0 : 0 ≤ now) (n1 : now ≤ 4611686018427387904) :
    ∃ (L : Int) (q t : List Int), ((L = now ∧ last < now) ∨ (L = last ∧ now ≤ last)) ∧ ((L = now ∧ L < now) ∨ (L = L ∧ now ≤ L)) ∧ 0 ≤ L ∧ L ≤ 4611686018427387904 ∧ lateL rq (L - win) = q ∧ lateL rt (L - win) = t ∧ lateL q (L - win) = q ∧ lateL t (L - win) = t ∧ q.length = cnt RQ (L - win) ∧ t.length = cnt RT (L - win) ∧ Mid win L q t RQ RT k := by
  obtain ⟨g1, g2, g3, g4, g5, g6⟩ := h
  have key : ∀ L, last ≤ L → 0 ≤ L → L ≤ 4611686018427387904 → lateL (lateL rq (L - win)) (L - win) = lateL rq (L - win) ∧ lateL (lateL rt (L - win)) (L - win) = lateL rt (L - win) ∧ (lateL rq (L - win)).length = cnt RQ (L - win) ∧ (lateL rt (L - win)).length = cnt RT (L - win) ∧ Mid win L (lateL rq (L - win)) (lateL rt (L - win)) RQ RT k := by
    intro L hL h0 h1
    have e1 := g1.brought hL
    have e2 := g2.brought hL
    have f1 := (g1.bring hL).brought (Int.le_refl L)
    have f2 := (g2.bring hL).brought (Int.le_refl L)
    exact ⟨by rw [f1, e1], by rw [f2, e2], by rw [e1, flt_len], by rw [e2, flt_len], g1.bring hL, g2.bring hL, h0, h1, g5, g6⟩
  by_cases h : last < now
  · obtain ⟨k1, k2, k3, k4, k5⟩ := key now (by omega) n0 n1
    exact ⟨now, _, _, .inl ⟨rfl, h⟩, .inr ⟨rfl, by omega⟩, n0, n1, rfl, rfl, k1, k2, k3, k4, k5⟩
  · obtain ⟨k1, k2, k3, k4, k5⟩ := key last (by omega) g3 g4
    exact ⟨last, _, _, .inr ⟨rfl, by omega⟩, .inr ⟨rfl, by omega⟩, g3, g4, rfl, rfl, k1, k2, k3, k4, k5⟩
theorem Mid.pushq {win L : Int} {q t RQ RT : List Int} {k : Nat} (h : Mid win L q t RQ RT k) (hw : 1 ≤ win) : Mid win L (q ++ [L]) t (RQ ++ [L]) RT (k + 1) := by
  obtain ⟨g1, g2, g3, g4, g5, g6⟩ := h
  exact ⟨g1.push hw, g2, g3, g4, by simp; omega, by omega⟩
theorem Mid.pusht {win L : Int} {q t RQ RT : List Int} {k : Nat} (h : Mid win L q t RQ RT k) (hw : 1 ≤ win) : Mid win L q (t ++ [L]) RQ (RT ++ [L]) (k + 1) := by
  obtain ⟨g1, g2, g3, g4, g5, g6⟩ := h
  exact ⟨g1, g2.push hw, g3, g4, by omega, by simp; omega⟩
theorem alloc_below (w : World) (o : Obj) {w' : World} (h : Below (w.alloc o).heap.size (w.alloc o) w') : Below w.heap.size w w' :=
  ((Below.refl w.heap.size w).alloc (Nat.le_refl _) o).trans (h.mono (by simp))
set_option maxHeartbeats 4000000 in
set_option maxRecDepth 100000 in
theorem budgetSteps_walk (w : World) (p m win : Int) (wp : (Lit.int .i64 p).wf = true) (wm : (Lit.int .i64 m).wf = true) (ww : (Lit.int .i64 win).wf = true) (a : Option Addr) (n cap : Nat) (f : Nat → Nat → Int) (hf : Flat w a n 2 f) (hr : n * 16 ≤ 140737488351232) (hn : n ≤ 9223372036854775807) :
    Calls Try.prog 9 #[.agg #[.int .i64 p, .int .i64 m, .int .i64 win], .slice a n cap] w fun e w' => e = .returned (.bool true) ∧ Below w.heap.size w w' := by
  have HF := Lib.hid hf
  clear hf hr wp wm ww
  by_cases h2 : 2000 < n
  · have h3 : (2000 : Int) < (n : Int) := by omega
    go_enter Try.func9, Try.ntmps9
    go_wp2_with (first | (go_at_call 25; (with_reducible refine (bspeaks _).mono ?_); rintro e w' ⟨rfl, hbel⟩))
    go_ret
    exact ⟨rfl, alloc_below _ _ hbel⟩
  have h3 : ¬ (2000 : Int) < (n : Int) := by omega
  have h4 : (n : Int) ≤ 2000 := by omega
  clear h2 h3
  by_cases hg : Good p m win
  · go_enter Try.func9, Try.ntmps9
    go_wp2_with fail
    refine (bnew_ok p m win _ hg).mono ?_
    rintro e w1 ⟨rfl, h1, hc1⟩
    have H1 := Lib.hid h1
    have HC1 := Lib.hid hc1
    have HA := Lib.hid ((Blk.new w [.int .i64 p, .int .i64 m, .int .i64 win] 42).chg hc1 (by simp))
    have c0 := HA.out.cell 0 _ rfl
    have c1 := HA.out.cell 1 _ rfl
    have c2 := HA.out.cell 2 _ rfl
    clear h1 hc1
    go_wp2_with fail
    refine (rnew_ok p m win _ hg).mono ?_
    rintro e w2 ⟨rfl, h1, hc1⟩
    have HC2 := Lib.hid hc1
    have H2 := Lib.hid h1
    clear h1 hc1 c0 c1 c2
    go_wp2_with fail
    have HN := Lib.hid (show Base w (w.heap.size + 1) w1.heap.size p m win 0 w2 from by
      have e1 : (w.alloc (.cells #[.int .i64 p, .int .i64 m, .int .i64 win] 42)).heap.size = w.heap.size + 1 := by simp
      have s1 := HC1.out.size
      have l1 := H1.out.lt _ H1.out.mem
      have hh1 := H1.out
      rw [e1] at hh1 s1 l1
      exact ⟨0, [], [], [], [], [w.heap.size + 1], [w1.heap.size], hh1.frame HC2.out (by simp), H2.out, by simp; omega, by simp, by simp; omega, (((Chg.refl [] w).alloc _).trans HC1.out (by simp)).trans HC2.out (by simp), PR.nil win, PR.nil win, by omega, by omega, by simp, by simp⟩)
    have HGD := Lib.hid hg
    clear hg HC1 HC2 H1 H2 HA
    have hn2 : n ≤ 2000 := by omega
    generalize w1.heap.size = b2 at *
    clear w1
    go_loopw [64] (fun i wr => ∃ (k : Nat), k ≤ n ∧ i = .int .i64 k ∧ Hid (Base w (w.heap.size + 1) b2 p m win k wr)) (fun i _ => n - (intOf i).toNat)
    case atStart => exact ⟨0, by omega, rfl, HN⟩
    case round =>
      clear HN
      obtain ⟨k, hk, rfl, HB⟩ := hrel
      by_cases hlt : k < n
      · obtain ⟨b, o, rfl, hbl, hx⟩ := HF.out.2 (by omega)
        have f0 := hx k 0 hlt (by omega)
        have f1 := hx k 1 hlt (by omega)
        have v0 := wfI (HF.out.1 k 0 hlt (by omega))
        have v1 := wfI (HF.out.1 k 1 hlt (by omega))
        clear hx
        generalize f k 0 = kd at *
        generalize f k 1 = now at *
        obtain ⟨last, rq, rt, RQ, RT, HT, HM⟩ := HB.out.two kd now
        have g0 : wr.cell? ⟨b, o + k * 2, none⟩ = some (.int .i64 kd) := HB.out.chg.cell f0 (by simp)
        have g1 : wr.cell? ⟨b, o + k * 2 + 1, none⟩ = some (.int .i64 now) := HB.out.chg.cell f1 (by simp)
        clear f0 f1
        by_cases hbad : now < 0 ∨ 4611686018427387904 < now
        · rcases (show kd = 0 ∨ kd = 1 ∨ ((kd == 0) = false ∧ (kd == 1) = false) by simp; omega) with rfl | rfl | ⟨k0, k1⟩
          · go_wp2_with fail
            (refine (bcan_bad _ now hbad _).mono ?_)
            rintro e w3 ⟨rfl, hc⟩
            replace HT := Lib.hid (HT.out.still hc)
            have c0 := HT.out.box.cell 0 _ rfl
            have c1 := HT.out.box.cell 1 _ rfl
            clear hc
            go_wp2_with (first | (go_at_call 29; (with_reducible refine (rcan_bad _ now hbad _).mono ?_); rintro e w' ⟨rfl, rfl⟩))
            go_region_held3 (fun w' => w'.cell? ⟨wr.heap.size, 1, none⟩ = some (.int .i64 now)) (exact c1)
              (first | (go_at_call 30; (with_reducible refine (badmit_bad _ now hbad _).mono ?_); rintro e w' ⟨rfl, rfl⟩) | (go_at_call 31; (with_reducible refine (radmit_bad _ now hbad _).mono ?_); rintro e w' ⟨rfl, rfl⟩))
            go_wp2_with fail
            go_roundw
            case rel => exact ⟨k + 1, by omega, by go_num, (HT.out.still (by first | exact Chg.refl _ _ | exact (Chg.refl _ _).drew | exact (Chg.refl _ _).drewN _)).base (HM.out.up (by omega))⟩
            case measure => simp [intOf]; omega
          · go_wp2_with fail
            (refine (bcan_bad _ now hbad _).mono ?_)
            rintro e w3 ⟨rfl, hc⟩
            replace HT := Lib.hid (HT.out.still hc)
            have c0 := HT.out.box.cell 0 _ rfl
            have c1 := HT.out.box.cell 1 _ rfl
            clear hc
            go_wp2_with (first | (go_at_call 29; (with_reducible refine (rcan_bad _ now hbad _).mono ?_); rintro e w' ⟨rfl, rfl⟩))
            (refine (ballow_bad _ now hbad _).mono ?_)
            rintro e w3 ⟨rfl, hc⟩
            replace HT := Lib.hid (HT.out.still hc)
            have c0 := HT.out.box.cell 0 _ rfl
            have c1 := HT.out.box.cell 1 _ rfl
            clear hc
            go_wp2_with fail
            go_wp2_with (first | (go_at_call 33; (with_reducible refine (rallow_bad _ now hbad _).mono ?_); rintro e w' ⟨rfl, rfl⟩))
            go_roundw
            case rel => exact ⟨k + 1, by omega, by go_num, HT.out.base (HM.out.up (by omega))⟩
            case measure => simp [intOf]; omega
          · go_wp2_with fail
            (refine (bcan_bad _ now hbad _).mono ?_)
            rintro e w3 ⟨rfl, hc⟩
            replace HT := Lib.hid (HT.out.still hc)
            have c0 := HT.out.box.cell 0 _ rfl
            have c1 := HT.out.box.cell 1 _ rfl
            clear hc
            go_wp2_with (first | (go_at_call 29; (with_reducible refine (rcan_bad _ now hbad _).mono ?_); rintro e w' ⟨rfl, rfl⟩) | (go_at_call 34; (with_reducible refine (blate_bad _ now hbad _).mono ?_); rintro e w' ⟨rfl, rfl⟩) | (go_at_call 35; (with_reducible refine (rlate_bad _ now hbad _).mono ?_); rintro e w' ⟨rfl, rfl⟩))
            go_roundw
            case rel => exact ⟨k + 1, by omega, by go_num, HT.out.base (HM.out.up (by omega))⟩
            case measure => simp [intOf]; omega
        · have n0 : 0 ≤ now := by omega
          have n1 : now ≤ 4611686018427387904 := by omega
          clear hbad
          have hwin : 1 ≤ win := HGD.out.2.2.2.2.1
          obtain ⟨L, q, t, hL1, hL2, hL3, hL4, e1, e2, e3, e4, e5, e6, hM2⟩ := HM.out.bring n0 n1
          have N1 := Lib.hid (show Nums p m win last last now L L from ⟨HGD.out.1, HGD.out.2.1, hwin, HGD.out.2.2.2.2.2, HM.out.2.2.1, HM.out.2.2.2.1, HM.out.2.2.1, HM.out.2.2.2.1, n0, n1, hL1, hL1⟩)
          have N2 := Lib.hid (show Nums p m win L last now L L from ⟨HGD.out.1, HGD.out.2.1, hwin, HGD.out.2.2.2.2.2, hL3, hL4, HM.out.2.2.1, HM.out.2.2.2.1, n0, n1, hL2, hL1⟩)
          have N3 := Lib.hid (show Nums p m win L L now L L from ⟨HGD.out.1, HGD.out.2.1, hwin, HGD.out.2.2.2.2.2, hL3, hL4, hL3, hL4, n0, n1, hL2, hL2⟩)
          have lQ : RQ.length ≤ k := HM.out.2.2.2.2.1
          have lT : RT.length ≤ k := HM.out.2.2.2.2.2
          have lq : q.length ≤ k := by have := cnt_le RQ (L - win); omega
          have lt : t.length ≤ k := by have := cnt_le RT (L - win); omega
          have E1 := Lib.hid e1
          have E2 := Lib.hid e2
          have E3 := Lib.hid e3
          have E4 := Lib.hid e4
          have E5 := Lib.hid e5.symm
          have E6 := Lib.hid e6.symm
          have HM2 := Lib.hid hM2
          have HC := Lib.hid (can_rcan p m q.length t.length).symm
          clear e1 e2 e3 e4 e5 e6 hM2 hL1 hL2
          rcases (show kd = 0 ∨ kd = 1 ∨ ((kd == 0) = false ∧ (kd == 1) = false) by simp; omega) with rfl | rfl | ⟨k0, k1⟩
          · go_wp2_with fail
            (refine (two_can HT.out N1.out E1.out E2.out (by omega)).mono ?_)
            clear HT
            rintro e w3 ⟨rfl, HT⟩
            have c0 := HT.out.box.cell 0 _ rfl
            have c1 := HT.out.box.cell 1 _ rfl
            go_wp2_with fail
            (refine (two_rcan HT.out N2.out (by omega) (by omega)).mono ?_)
            clear HT
            rintro e w3 ⟨rfl, HT⟩
            have c0 := HT.out.box.cell 0 _ rfl
            have c1 := HT.out.box.cell 1 _ rfl
            rw [E5.out, E6.out, HC.out]
            generalize canB p m q.length t.length = cb at *
            go_wp2_with fail
            go_region_held3 (fun w' => w'.cell? ⟨wr.heap.size, 1, none⟩ = some (.int .i64 now))
              (first | exact c1 | exact HT.out.box.cell 1 _ rfl)
              (first
                | (go_at_call 30; (with_reducible refine (two_admit (HT.out.still (by first | exact Chg.refl _ _ | exact (Chg.refl _ _).drew | exact (Chg.refl _ _).drewN _)) N3.out E3.out E4.out (by omega)).mono ?_); clear HT; rintro e w3 ⟨rfl, HT⟩; have c1 := HT.out.box.cell 1 _ rfl)
                | (go_at_call 31; (with_reducible refine (two_radmit (HT.out.still (by first | exact Chg.refl _ _ | exact (Chg.refl _ _).drew | exact (Chg.refl _ _).drewN _)) N3.out (by omega)).mono ?_); clear HT; rintro e w3 ⟨rfl, HT⟩; have c1 := HT.out.box.cell 1 _ rfl))
            go_wp2_with fail
            go_roundw
            case rel => exact ⟨k + 1, by omega, by go_num, HT.out.base (HM2.out.pushq hwin)⟩
            case measure => simp [intOf]; omega
          · have hcb : canB p m q.length t.length = true ∨ canB p m q.length t.length = false := by cases canB p m q.length t.length <;> simp
            rcases hcb with hcb | hcb
            · have HCB := Lib.hid hcb
              clear hcb
              go_wp2_with fail
              (refine (two_can HT.out N1.out E1.out E2.out (by omega)).mono ?_)
              clear HT
              rintro e w3 ⟨rfl, HT⟩
              have c0 := HT.out.box.cell 0 _ rfl
              have c1 := HT.out.box.cell 1 _ rfl
              rw [HCB.out]
              go_wp2_with fail
              (refine (two_rcan HT.out N2.out (by omega) (by omega)).mono ?_)
              clear HT
              rintro e w3 ⟨rfl, HT⟩
              have c0 := HT.out.box.cell 0 _ rfl
              have c1 := HT.out.box.cell 1 _ rfl
              rw [E5.out, E6.out, HC.out, HCB.out]
              go_wp2_with fail
              (refine (two_allow_yes HT.out N3.out E3.out E4.out (by omega) (by omega) HCB.out).mono ?_)
              clear HT
              rintro e w3 ⟨rfl, HT⟩
              have c0 := HT.out.box.cell 0 _ rfl
              have c1 := HT.out.box.cell 1 _ rfl
              go_wp2_with fail
              (refine (two_rallow_yes HT.out N3.out (by omega) (by omega) (by rw [E5.out, E6.out, HC.out, HCB.out])).mono ?_)
              clear HT
              rintro e w3 ⟨rfl, HT⟩
              have c0 := HT.out.box.cell 0 _ rfl
              have c1 := HT.out.box.cell 1 _ rfl
              go_wp2_with fail
              go_roundw
              case rel => exact ⟨k + 1, by omega, by go_num, HT.out.base (HM2.out.pusht hwin)⟩
              case measure => simp [intOf]; omega
            · have HCB := Lib.hid hcb
              clear hcb
              go_wp2_with fail
              (refine (two_can HT.out N1.out E1.out E2.out (by omega)).mono ?_)
              clear HT
              rintro e w3 ⟨rfl, HT⟩
              have c0 := HT.out.box.cell 0 _ rfl
              have c1 := HT.out.box.cell 1 _ rfl
              rw [HCB.out]
              go_wp2_with fail
              (refine (two_rcan HT.out N2.out (by omega) (by omega)).mono ?_)
              clear HT
              rintro e w3 ⟨rfl, HT⟩
              have c0 := HT.out.box.cell 0 _ rfl
              have c1 := HT.out.box.cell 1 _ rfl
              rw [E5.out, E6.out, HC.out, HCB.out]
              go_wp2_with fail
              (refine (two_allow_no HT.out N3.out E3.out E4.out (by omega) HCB.out).mono ?_)
              clear HT
              rintro e w3 ⟨rfl, HT⟩
              have c0 := HT.out.box.cell 0 _ rfl
              have c1 := HT.out.box.cell 1 _ rfl
              go_wp2_with fail
              (refine (two_rallow_no HT.out N3.out (by omega) (by omega) (by rw [E5.out, E6.out, HC.out, HCB.out])).mono ?_)
              clear HT
              rintro e w3 ⟨rfl, HT⟩
              have c0 := HT.out.box.cell 0 _ rfl
              have c1 := HT.out.box.cell 1 _ rfl
              go_wp2_with fail
              go_roundw
              case rel => exact ⟨k + 1, by omega, by go_num, HT.out.base (HM2.out.up (by omega))⟩
              case measure => simp [intOf]; omega
          · go_wp2_with fail
            (refine (two_can HT.out N1.out E1.out E2.out (by omega)).mono ?_)
            clear HT
            rintro e w3 ⟨rfl, HT⟩
            have c0 := HT.out.box.cell 0 _ rfl
            have c1 := HT.out.box.cell 1 _ rfl
            go_wp2_with fail
            (refine (two_rcan HT.out N2.out (by omega) (by omega)).mono ?_)
            clear HT
            rintro e w3 ⟨rfl, HT⟩
            have c0 := HT.out.box.cell 0 _ rfl
            have c1 := HT.out.box.cell 1 _ rfl
            rw [E5.out, E6.out, HC.out]
            generalize canB p m q.length t.length = cb at *
            go_wp2_with fail
            (refine (two_late HT.out N3.out E3.out E4.out).mono ?_)
            clear HT
            rintro e w3 ⟨rfl, HT⟩
            have c0 := HT.out.box.cell 0 _ rfl
            have c1 := HT.out.box.cell 1 _ rfl
            go_wp2_with fail
            (refine (two_rlate HT.out N3.out).mono ?_)
            clear HT
            rintro e w3 ⟨rfl, HT⟩
            have c0 := HT.out.box.cell 0 _ rfl
            have c1 := HT.out.box.cell 1 _ rfl
            rw [E5.out, E6.out]
            go_wp2_with fail
            go_roundw
            case rel => exact ⟨k + 1, by omega, by go_num, HT.out.base (HM2.out.up (by omega))⟩
            case measure => simp [intOf]; omega
      · go_wp2_with (first | (go_at_call 25; (with_reducible refine (bspeaks _).mono ?_); rintro e w' ⟨rfl, hbel⟩))
        go_ret
        exact ⟨rfl, HB.out.chg.below.trans (hbel.mono HB.out.chg.size)⟩
  · have hb1 := Lib.hid (fun w => bnew_bad p m win w hg)
    have hb2 := Lib.hid (fun w => rnew_bad p m win w hg)
    clear hg
    go_enter Try.func9, Try.ntmps9
    go_wp2_with (first | (go_at_call 26; (with_reducible refine (hb1.out _).mono ?_); rintro e w' ⟨rfl, rfl⟩) | (go_at_call 27; (with_reducible refine (hb2.out _).mono ?_); rintro e w' ⟨rfl, rfl⟩) | (go_at_call 25; (with_reducible refine (bspeaks _).mono ?_); rintro e w' ⟨rfl, hbel⟩))
    go_ret
    exact ⟨rfl, alloc_below _ _ hbel⟩
end Go.Proofs.Ytgaggimkkoopfaa
