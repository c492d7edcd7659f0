/- Layer 13, the program: route, Check, caps. -/
import Derived.Test.YtjndgkbikhndoaaGreatDoorM5
import Derived.Deep.WholeRow
import Derived.Deep.MidRow
namespace Go.Proofs.YtjndgkbikhndoaaGreatDoor
open Go.RowKit Go.ChangeShapes Go.WideShapes
set_option linter.unusedVariables false

theorem flat_get {k : Nat} : ∀ (rows : List (List Value)), (∀ r, r ∈ rows → r.length = k) → ∀ (i : Nat) (r : List Value) (j : Nat) (x : Value), rows[i]? = some r → r[j]? = some x → rows.flatten[i * k + j]? = some x
  | [], _, i, r, j, x, h, _ => by simp at h
  | a :: l, hk, 0, r, j, x, h, hj => by
    have e : a = r := by simpa using h
    subst e
    rw [Nat.zero_mul, Nat.zero_add, List.flatten_cons, List.getElem?_append_left (List.getElem?_eq_some_iff.1 hj).1]
    exact hj
  | a :: l, hk, i + 1, r, j, x, h, hj => by
    have ha := hk a List.mem_cons_self
    rw [List.flatten_cons, List.getElem?_append_right (by rw [ha, Nat.succ_mul]; omega), ha]
    have := flat_get l (fun r hr => hk r (List.mem_cons_of_mem _ hr)) i r j x (by simpa using h) hj
    rw [← this]
    congr 1
    rw [Nat.succ_mul]
    omega
theorem Tbl.ofBlk {W : World} {b T k : Nat} {rows : List (List Value)} {vs : List Value} (hb : Blk W b vs T) (hv : vs = rows.flatten) (hk : ∀ r, r ∈ rows → r.length = k) : Tbl W (.slice (some ⟨b, 0, none⟩) rows.length rows.length) k rows :=
  ⟨_, _, rfl, Nat.le_refl _, fun _ => ⟨b, 0, rfl, hb.lt, fun i r hr j x hj => by
    rw [Nat.zero_add]
    exact hb.cell _ _ (by rw [hv]; exact flat_get rows hk i r j x hr hj)⟩⟩
theorem span_len (l : List (Int × Int × Int)) : ∀ r, r ∈ spanRows l → r.length = 3 := by
  intro r hr
  obtain ⟨x, -, rfl⟩ := List.mem_map.1 hr
  rfl
set_option maxHeartbeats 8000000 in
set_option maxRecDepth 100000 in
theorem croute_any (r : Rt) (mv hv : Value) (n : Int) (w : World) (hE : Hid (Env w)) (hA : Hid (RtAt w r mv hv)) (hsz : Hid (RtSz r)) (z : Bool) (hz : routeOK r n = z) :
    Calls Tryz.prog 36 #[.agg (rtRow r mv hv).toArray, .int .i64 n] w fun e w' => e = .returned (.bool z) ∧ Hid (Chg [] w w') := by
  obtain ⟨⟨host, pre, ms, hd, va⟩, hosts, rate, per, burst, opn, fails, cool, probes, percent, mini, window, retries, hedges, hedgeAfter, perTry, total⟩ := r
  have HB0 := Lib.hid (Blk.new w (rtRow ⟨⟨host, pre, ms, hd, va⟩, hosts, rate, per, burst, opn, fails, cool, probes, percent, mini, window, retries, hedges, hedgeAfter, perTry, total⟩ mv hv) 42)
  unfold rtRow at HB0 ⊢
  dsimp only at HB0 ⊢
  have hlen : (intRows hosts).length = hosts.length := by unfold intRows; rw [List.length_map]
  obtain ⟨A, cap, rfl⟩ := hA.out.hs.form
  dsimp only at hA ⊢ HB0
  rw [hlen] at hA HB0 ⊢
  have HLen := Lib.hid hlen
  have hmn : hosts.length ≤ 1048576 := hsz.out.hn
  have HMSZ := Lib.hid hsz.out.m
  have HNUM := Lib.hid (show Rt.nums ⟨⟨host, pre, ms, hd, va⟩, hosts, rate, per, burst, opn, fails, cool, probes, percent, mini, window, retries, hedges, hedgeAfter, perTry, total⟩ = [(rate, 0, M6), (per, 1, M6), (burst, 0, M6), (opn, 1, 1000), (fails, 0, 1000), (cool, 1, M6), (probes, 1, 100), (percent, 0, 100), (mini, 0, 1000), (window, 1, M6), (retries, 0, 5), (hedges, 0, 3), (hedgeAfter, 1, M6), (perTry, 1, M6), (total, 1, M6)] from rfl)
  have hz2 : (matchOK ⟨host, pre, ms, hd, va⟩ && (decide (1 ≤ hosts.length) && decide (hosts.length ≤ 16)) && hosts.all (okH n) && decide hosts.Nodup && allR [(rate, 0, M6), (per, 1, M6), (burst, 0, M6), (opn, 1, 1000), (fails, 0, 1000), (cool, 1, M6), (probes, 1, 100), (percent, 0, 100), (mini, 0, 1000), (window, 1, M6), (retries, 0, 5), (hedges, 0, 3), (hedgeAfter, 1, M6), (perTry, 1, M6), (total, 1, M6)]) = z := hz
  have HZ := Lib.hid hz2
  clear hz hz2 hlen HNUM
  have HN0 := Lib.hid (Blk.new (w.alloc (.cells #[.string host, .string pre, mv, .string hd, .string va, .slice A hosts.length cap, .int .i64 rate, .int .i64 per, .int .i64 burst, .int .i64 opn, .int .i64 fails, .int .i64 cool, .int .i64 probes, .int .i64 percent, .int .i64 mini, .int .i64 window, .int .i64 retries, .int .i64 hedges, .int .i64 hedgeAfter, .int .i64 perTry, .int .i64 total] 42)) [.int .i64 n] 3)
  rw [show (w.alloc (.cells #[.string host, .string pre, mv, .string hd, .string va, .slice A hosts.length cap, .int .i64 rate, .int .i64 per, .int .i64 burst, .int .i64 opn, .int .i64 fails, .int .i64 cool, .int .i64 probes, .int .i64 percent, .int .i64 mini, .int .i64 window, .int .i64 retries, .int .i64 hedges, .int .i64 hedgeAfter, .int .i64 perTry, .int .i64 total] 42)).heap.size = w.heap.size + 1 by simp] at HN0
  have HC0 := Lib.hid (((Chg.refl [] w).alloc (.cells #[.string host, .string pre, mv, .string hd, .string va, .slice A hosts.length cap, .int .i64 rate, .int .i64 per, .int .i64 burst, .int .i64 opn, .int .i64 fails, .int .i64 cool, .int .i64 probes, .int .i64 percent, .int .i64 mini, .int .i64 window, .int .i64 retries, .int .i64 hedges, .int .i64 hedgeAfter, .int .i64 perTry, .int .i64 total] 42)).alloc (.cells #[.int .i64 n] 3))
  have HB1 := Lib.hid (HB0.out.alloc (.cells #[.int .i64 n] 3))
  go_enter Tryz.func36, Tryz.ntmps36
  go_upto_region 2 with fail
  change Hid (Blk ((w.alloc (.cells #[.string host, .string pre, mv, .string hd, .string va, .slice A hosts.length cap, .int .i64 rate, .int .i64 per, .int .i64 burst, .int .i64 opn, .int .i64 fails, .int .i64 cool, .int .i64 probes, .int .i64 percent, .int .i64 mini, .int .i64 window, .int .i64 retries, .int .i64 hedges, .int .i64 hedgeAfter, .int .i64 perTry, .int .i64 total] 42)).alloc (.cells #[.int .i64 n] 3)) _ _ _) at HB1
  change Hid (Blk ((w.alloc (.cells #[.string host, .string pre, mv, .string hd, .string va, .slice A hosts.length cap, .int .i64 rate, .int .i64 per, .int .i64 burst, .int .i64 opn, .int .i64 fails, .int .i64 cool, .int .i64 probes, .int .i64 percent, .int .i64 mini, .int .i64 window, .int .i64 retries, .int .i64 hedges, .int .i64 hedgeAfter, .int .i64 perTry, .int .i64 total] 42)).alloc (.cells #[.int .i64 n] 3)) _ _ _) at HN0
  generalize ((w.alloc (.cells #[.string host, .string pre, mv, .string hd, .string va, .slice A hosts.length cap, .int .i64 rate, .int .i64 per, .int .i64 burst, .int .i64 opn, .int .i64 fails, .int .i64 cool, .int .i64 probes, .int .i64 percent, .int .i64 mini, .int .i64 window, .int .i64 retries, .int .i64 hedges, .int .i64 hedgeAfter, .int .i64 perTry, .int .i64 total] 42)).alloc (.cells #[.int .i64 n] 3)) = W1 at HB1 HN0 HC0 ⊢
  generalize w.heap.size + 1 = bn at HN0 ⊢
  generalize w.heap.size = b at HB1 ⊢
  have HB := HB1
  have HN := HN0
  have HC := HC0
  have HA := Lib.hid (hA.out.chg HC.out)
  have HM0 := Lib.hid (fun W (hE : Hid (Env W)) (hA : Hid (RtAt W ⟨⟨host, pre, ms, hd, va⟩, hosts, rate, per, burst, opn, fails, cool, probes, percent, mini, window, retries, hedges, hedgeAfter, perTry, total⟩ mv (.slice A hosts.length cap))) => cmatch_any host pre hd va ms mv W hE (Lib.hid hA.out.ms) HMSZ _ rfl)
  clear HB0 HB1 HN0 HC0 hA hsz
  (have HBb := HB.out;
   have c0 := HBb.cell 0 _ rfl;
   have c1 := HBb.cell 1 _ rfl;
   have c2 := HBb.cell 2 _ rfl;
   have c3 := HBb.cell 3 _ rfl;
   have c4 := HBb.cell 4 _ rfl;
   have c5 := HBb.cell 5 _ rfl;
   have c6 := HBb.cell 6 _ rfl;
   have c7 := HBb.cell 7 _ rfl;
   have c8 := HBb.cell 8 _ rfl;
   have c9 := HBb.cell 9 _ rfl;
   have c10 := HBb.cell 10 _ rfl;
   have c11 := HBb.cell 11 _ rfl;
   have c12 := HBb.cell 12 _ rfl;
   have c13 := HBb.cell 13 _ rfl;
   have c14 := HBb.cell 14 _ rfl;
   have c15 := HBb.cell 15 _ rfl;
   have c16 := HBb.cell 16 _ rfl;
   have c17 := HBb.cell 17 _ rfl;
   have c18 := HBb.cell 18 _ rfl;
   have c19 := HBb.cell 19 _ rfl;
   have c20 := HBb.cell 20 _ rfl;
   clear HBb)
  have hz := HZ.out
  generalize matchOK ⟨host, pre, ms, hd, va⟩ = zm at hz HM0
  clear HZ
  cases zm
  · have HR := Lib.hid (show z = false from hz.symm)
    clear hz
    go_wp2_with fail
    refine (HM0.out _ (Lib.hid (hE.out.chg HC.out)) HA).mono ?_
    rintro e w2 ⟨rfl, H2⟩
    have HB2 := Lib.hid (HB.out.chg H2.out (by simp))
    have HC2 := Lib.hid (HC.out.trans H2.out (by simp))
    have HA2 := Lib.hid (HA.out.chg H2.out)
    have HN2 := Lib.hid (HN.out.chg H2.out (by simp))
    clear c0 c1 c2 c3 c4 c5 c6 c7 c8 c9 c10 c11 c12 c13 c14 c15 c16 c17 c18 c19 c20
    clear HB HC HA HN
    have HB := HB2
    have HC := HC2
    have HA := HA2
    have HN := HN2
    clear HB2 HC2 HA2 HN2
    (have HBb := HB.out;
     have c0 := HBb.cell 0 _ rfl;
     have c1 := HBb.cell 1 _ rfl;
     have c2 := HBb.cell 2 _ rfl;
     have c3 := HBb.cell 3 _ rfl;
     have c4 := HBb.cell 4 _ rfl;
     have c5 := HBb.cell 5 _ rfl;
     have c6 := HBb.cell 6 _ rfl;
     have c7 := HBb.cell 7 _ rfl;
     have c8 := HBb.cell 8 _ rfl;
     have c9 := HBb.cell 9 _ rfl;
     have c10 := HBb.cell 10 _ rfl;
     have c11 := HBb.cell 11 _ rfl;
     have c12 := HBb.cell 12 _ rfl;
     have c13 := HBb.cell 13 _ rfl;
     have c14 := HBb.cell 14 _ rfl;
     have c15 := HBb.cell 15 _ rfl;
     have c16 := HBb.cell 16 _ rfl;
     have c17 := HBb.cell 17 _ rfl;
     have c18 := HBb.cell 18 _ rfl;
     have c19 := HBb.cell 19 _ rfl;
     have c20 := HBb.cell 20 _ rfl;
     clear HBb)
    go_wp2
    go_ret
    exact ⟨by rw [HR.out]; rfl, HC.out⟩
  · rw [Bool.true_and] at hz
    by_cases h1 : 1 ≤ hosts.length
    · have h1i : ¬ (hosts.length : Int) < 1 := by omega
      by_cases h2 : hosts.length ≤ 16
      · have h2i : ¬ (16 : Int) < (hosts.length : Int) := by omega
        rw [decide_eq_true h1, decide_eq_true h2, Bool.true_and, Bool.true_and] at hz
        have HCI := Lib.hid (fun W (hA : Hid (RtAt W ⟨⟨host, pre, ms, hd, va⟩, hosts, rate, per, burst, opn, fails, cool, probes, percent, mini, window, retries, hedges, hedgeAfter, perTry, total⟩ mv (.slice A hosts.length cap))) (hb : Hid (Blk W bn [.int .i64 n] 3)) => containsI_any _ hosts n bn W (Lib.hid hA.out.hs) hmn hb)
        generalize hosts.all (okH n) = za at hz HCI
        cases za
        · have HR := Lib.hid (show z = false from hz.symm)
          clear hz
          go_wp2_with fail
          refine (HM0.out _ (Lib.hid (hE.out.chg HC.out)) HA).mono ?_
          rintro e w2 ⟨rfl, H2⟩
          have HB2 := Lib.hid (HB.out.chg H2.out (by simp))
          have HC2 := Lib.hid (HC.out.trans H2.out (by simp))
          have HA2 := Lib.hid (HA.out.chg H2.out)
          have HN2 := Lib.hid (HN.out.chg H2.out (by simp))
          clear c0 c1 c2 c3 c4 c5 c6 c7 c8 c9 c10 c11 c12 c13 c14 c15 c16 c17 c18 c19 c20
          clear HB HC HA HN
          have HB := HB2
          have HC := HC2
          have HA := HA2
          have HN := HN2
          clear HB2 HC2 HA2 HN2
          (have HBb := HB.out;
           have c0 := HBb.cell 0 _ rfl;
           have c1 := HBb.cell 1 _ rfl;
           have c2 := HBb.cell 2 _ rfl;
           have c3 := HBb.cell 3 _ rfl;
           have c4 := HBb.cell 4 _ rfl;
           have c5 := HBb.cell 5 _ rfl;
           have c6 := HBb.cell 6 _ rfl;
           have c7 := HBb.cell 7 _ rfl;
           have c8 := HBb.cell 8 _ rfl;
           have c9 := HBb.cell 9 _ rfl;
           have c10 := HBb.cell 10 _ rfl;
           have c11 := HBb.cell 11 _ rfl;
           have c12 := HBb.cell 12 _ rfl;
           have c13 := HBb.cell 13 _ rfl;
           have c14 := HBb.cell 14 _ rfl;
           have c15 := HBb.cell 15 _ rfl;
           have c16 := HBb.cell 16 _ rfl;
           have c17 := HBb.cell 17 _ rfl;
           have c18 := HBb.cell 18 _ rfl;
           have c19 := HBb.cell 19 _ rfl;
           have c20 := HBb.cell 20 _ rfl;
           clear HBb)
          go_wp2_with fail
          refine (HCI.out _ HA HN).mono ?_
          rintro e w2 ⟨rfl, H2⟩
          have HB2 := Lib.hid (HB.out.chg H2.out (by simp))
          have HC2 := Lib.hid (HC.out.trans H2.out (by simp))
          have HA2 := Lib.hid (HA.out.chg H2.out)
          have HN2 := Lib.hid (HN.out.chg H2.out (by simp))
          clear c0 c1 c2 c3 c4 c5 c6 c7 c8 c9 c10 c11 c12 c13 c14 c15 c16 c17 c18 c19 c20
          clear HB HC HA HN
          have HB := HB2
          have HC := HC2
          have HA := HA2
          have HN := HN2
          clear HB2 HC2 HA2 HN2
          (have HBb := HB.out;
           have c0 := HBb.cell 0 _ rfl;
           have c1 := HBb.cell 1 _ rfl;
           have c2 := HBb.cell 2 _ rfl;
           have c3 := HBb.cell 3 _ rfl;
           have c4 := HBb.cell 4 _ rfl;
           have c5 := HBb.cell 5 _ rfl;
           have c6 := HBb.cell 6 _ rfl;
           have c7 := HBb.cell 7 _ rfl;
           have c8 := HBb.cell 8 _ rfl;
           have c9 := HBb.cell 9 _ rfl;
           have c10 := HBb.cell 10 _ rfl;
           have c11 := HBb.cell 11 _ rfl;
           have c12 := HBb.cell 12 _ rfl;
           have c13 := HBb.cell 13 _ rfl;
           have c14 := HBb.cell 14 _ rfl;
           have c15 := HBb.cell 15 _ rfl;
           have c16 := HBb.cell 16 _ rfl;
           have c17 := HBb.cell 17 _ rfl;
           have c18 := HBb.cell 18 _ rfl;
           have c19 := HBb.cell 19 _ rfl;
           have c20 := HBb.cell 20 _ rfl;
           clear HBb)
          go_wp2
          go_ret
          exact ⟨by rw [HR.out]; rfl, HC.out⟩
        · rw [Bool.true_and] at hz
          have HTW := Lib.hid (fun W (hA : Hid (RtAt W ⟨⟨host, pre, ms, hd, va⟩, hosts, rate, per, burst, opn, fails, cool, probes, percent, mini, window, retries, hedges, hedgeAfter, perTry, total⟩ mv (.slice A hosts.length cap))) => twiceI_any _ hosts W (Lib.hid hA.out.hs) hmn)
          generalize decide hosts.Nodup = zn at hz HTW
          cases zn
          · have HR := Lib.hid (show z = false from hz.symm)
            clear hz
            go_wp2_with fail
            refine (HM0.out _ (Lib.hid (hE.out.chg HC.out)) HA).mono ?_
            rintro e w2 ⟨rfl, H2⟩
            have HB2 := Lib.hid (HB.out.chg H2.out (by simp))
            have HC2 := Lib.hid (HC.out.trans H2.out (by simp))
            have HA2 := Lib.hid (HA.out.chg H2.out)
            have HN2 := Lib.hid (HN.out.chg H2.out (by simp))
            clear c0 c1 c2 c3 c4 c5 c6 c7 c8 c9 c10 c11 c12 c13 c14 c15 c16 c17 c18 c19 c20
            clear HB HC HA HN
            have HB := HB2
            have HC := HC2
            have HA := HA2
            have HN := HN2
            clear HB2 HC2 HA2 HN2
            (have HBb := HB.out;
             have c0 := HBb.cell 0 _ rfl;
             have c1 := HBb.cell 1 _ rfl;
             have c2 := HBb.cell 2 _ rfl;
             have c3 := HBb.cell 3 _ rfl;
             have c4 := HBb.cell 4 _ rfl;
             have c5 := HBb.cell 5 _ rfl;
             have c6 := HBb.cell 6 _ rfl;
             have c7 := HBb.cell 7 _ rfl;
             have c8 := HBb.cell 8 _ rfl;
             have c9 := HBb.cell 9 _ rfl;
             have c10 := HBb.cell 10 _ rfl;
             have c11 := HBb.cell 11 _ rfl;
             have c12 := HBb.cell 12 _ rfl;
             have c13 := HBb.cell 13 _ rfl;
             have c14 := HBb.cell 14 _ rfl;
             have c15 := HBb.cell 15 _ rfl;
             have c16 := HBb.cell 16 _ rfl;
             have c17 := HBb.cell 17 _ rfl;
             have c18 := HBb.cell 18 _ rfl;
             have c19 := HBb.cell 19 _ rfl;
             have c20 := HBb.cell 20 _ rfl;
             clear HBb)
            go_wp2_with fail
            refine (HCI.out _ HA HN).mono ?_
            rintro e w2 ⟨rfl, H2⟩
            have HB2 := Lib.hid (HB.out.chg H2.out (by simp))
            have HC2 := Lib.hid (HC.out.trans H2.out (by simp))
            have HA2 := Lib.hid (HA.out.chg H2.out)
            have HN2 := Lib.hid (HN.out.chg H2.out (by simp))
            clear c0 c1 c2 c3 c4 c5 c6 c7 c8 c9 c10 c11 c12 c13 c14 c15 c16 c17 c18 c19 c20
            clear HB HC HA HN
            have HB := HB2
            have HC := HC2
            have HA := HA2
            have HN := HN2
            clear HB2 HC2 HA2 HN2
            (have HBb := HB.out;
             have c0 := HBb.cell 0 _ rfl;
             have c1 := HBb.cell 1 _ rfl;
             have c2 := HBb.cell 2 _ rfl;
             have c3 := HBb.cell 3 _ rfl;
             have c4 := HBb.cell 4 _ rfl;
             have c5 := HBb.cell 5 _ rfl;
             have c6 := HBb.cell 6 _ rfl;
             have c7 := HBb.cell 7 _ rfl;
             have c8 := HBb.cell 8 _ rfl;
             have c9 := HBb.cell 9 _ rfl;
             have c10 := HBb.cell 10 _ rfl;
             have c11 := HBb.cell 11 _ rfl;
             have c12 := HBb.cell 12 _ rfl;
             have c13 := HBb.cell 13 _ rfl;
             have c14 := HBb.cell 14 _ rfl;
             have c15 := HBb.cell 15 _ rfl;
             have c16 := HBb.cell 16 _ rfl;
             have c17 := HBb.cell 17 _ rfl;
             have c18 := HBb.cell 18 _ rfl;
             have c19 := HBb.cell 19 _ rfl;
             have c20 := HBb.cell 20 _ rfl;
             clear HBb)
            go_wp2_with fail
            refine (HTW.out _ HA).mono ?_
            rintro e w2 ⟨rfl, rfl⟩
            go_wp2
            go_ret
            exact ⟨by rw [HR.out]; rfl, HC.out⟩
          · rw [Bool.true_and] at hz
            have HR := Lib.hid hz
            clear hz
            go_wp2_with fail
            refine (HM0.out _ (Lib.hid (hE.out.chg HC.out)) HA).mono ?_
            rintro e w2 ⟨rfl, H2⟩
            have HB2 := Lib.hid (HB.out.chg H2.out (by simp))
            have HC2 := Lib.hid (HC.out.trans H2.out (by simp))
            have HA2 := Lib.hid (HA.out.chg H2.out)
            have HN2 := Lib.hid (HN.out.chg H2.out (by simp))
            clear c0 c1 c2 c3 c4 c5 c6 c7 c8 c9 c10 c11 c12 c13 c14 c15 c16 c17 c18 c19 c20
            clear HB HC HA HN
            have HB := HB2
            have HC := HC2
            have HA := HA2
            have HN := HN2
            clear HB2 HC2 HA2 HN2
            (have HBb := HB.out;
             have c0 := HBb.cell 0 _ rfl;
             have c1 := HBb.cell 1 _ rfl;
             have c2 := HBb.cell 2 _ rfl;
             have c3 := HBb.cell 3 _ rfl;
             have c4 := HBb.cell 4 _ rfl;
             have c5 := HBb.cell 5 _ rfl;
             have c6 := HBb.cell 6 _ rfl;
             have c7 := HBb.cell 7 _ rfl;
             have c8 := HBb.cell 8 _ rfl;
             have c9 := HBb.cell 9 _ rfl;
             have c10 := HBb.cell 10 _ rfl;
             have c11 := HBb.cell 11 _ rfl;
             have c12 := HBb.cell 12 _ rfl;
             have c13 := HBb.cell 13 _ rfl;
             have c14 := HBb.cell 14 _ rfl;
             have c15 := HBb.cell 15 _ rfl;
             have c16 := HBb.cell 16 _ rfl;
             have c17 := HBb.cell 17 _ rfl;
             have c18 := HBb.cell 18 _ rfl;
             have c19 := HBb.cell 19 _ rfl;
             have c20 := HBb.cell 20 _ rfl;
             clear HBb)
            go_wp2_with fail
            refine (HCI.out _ HA HN).mono ?_
            rintro e w2 ⟨rfl, H2⟩
            have HB2 := Lib.hid (HB.out.chg H2.out (by simp))
            have HC2 := Lib.hid (HC.out.trans H2.out (by simp))
            have HA2 := Lib.hid (HA.out.chg H2.out)
            have HN2 := Lib.hid (HN.out.chg H2.out (by simp))
            clear c0 c1 c2 c3 c4 c5 c6 c7 c8 c9 c10 c11 c12 c13 c14 c15 c16 c17 c18 c19 c20
            clear HB HC HA HN
            have HB := HB2
            have HC := HC2
            have HA := HA2
            have HN := HN2
            clear HB2 HC2 HA2 HN2
            (have HBb := HB.out;
             have c0 := HBb.cell 0 _ rfl;
             have c1 := HBb.cell 1 _ rfl;
             have c2 := HBb.cell 2 _ rfl;
             have c3 := HBb.cell 3 _ rfl;
             have c4 := HBb.cell 4 _ rfl;
             have c5 := HBb.cell 5 _ rfl;
             have c6 := HBb.cell 6 _ rfl;
             have c7 := HBb.cell 7 _ rfl;
             have c8 := HBb.cell 8 _ rfl;
             have c9 := HBb.cell 9 _ rfl;
             have c10 := HBb.cell 10 _ rfl;
             have c11 := HBb.cell 11 _ rfl;
             have c12 := HBb.cell 12 _ rfl;
             have c13 := HBb.cell 13 _ rfl;
             have c14 := HBb.cell 14 _ rfl;
             have c15 := HBb.cell 15 _ rfl;
             have c16 := HBb.cell 16 _ rfl;
             have c17 := HBb.cell 17 _ rfl;
             have c18 := HBb.cell 18 _ rfl;
             have c19 := HBb.cell 19 _ rfl;
             have c20 := HBb.cell 20 _ rfl;
             clear HBb)
            go_wp2_with fail
            refine (HTW.out _ HA).mono ?_
            rintro e w2 ⟨rfl, rfl⟩
            go_wp2_with fail
            have HT := Lib.hid (Tbl.ofBlk (rows := spanRows [(rate, 0, M6), (per, 1, M6), (burst, 0, M6), (opn, 1, 1000), (fails, 0, 1000), (cool, 1, M6), (probes, 1, 100), (percent, 0, 100), (mini, 0, 1000), (window, 1, M6), (retries, 0, 5), (hedges, 0, 3), (hedgeAfter, 1, M6), (perTry, 1, M6), (total, 1, M6)]) (Blk.new w2 (spanRows [(rate, 0, M6), (per, 1, M6), (burst, 0, M6), (opn, 1, 1000), (fails, 0, 1000), (cool, 1, M6), (probes, 1, 100), (percent, 0, 100), (mini, 0, 1000), (window, 1, M6), (retries, 0, 5), (hedges, 0, 3), (hedgeAfter, 1, M6), (perTry, 1, M6), (total, 1, M6)]).flatten 66) rfl (span_len _))
            have HC9 := Lib.hid (HC.out.alloc (.cells (spanRows [(rate, 0, M6), (per, 1, M6), (burst, 0, M6), (opn, 1, 1000), (fails, 0, 1000), (cool, 1, M6), (probes, 1, 100), (percent, 0, 100), (mini, 0, 1000), (window, 1, M6), (retries, 0, 5), (hedges, 0, 3), (hedgeAfter, 1, M6), (perTry, 1, M6), (total, 1, M6)]).flatten.toArray 66))
            refine (within_any (.slice (some ⟨w2.heap.size, 0, none⟩) 15 15) [(rate, 0, M6), (per, 1, M6), (burst, 0, M6), (opn, 1, 1000), (fails, 0, 1000), (cool, 1, M6), (probes, 1, 100), (percent, 0, 100), (mini, 0, 1000), (window, 1, M6), (retries, 0, 5), (hedges, 0, 3), (hedgeAfter, 1, M6), (perTry, 1, M6), (total, 1, M6)] _ HT (by show 15 ≤ 1000; omega)).mono ?_
            rintro e w3 ⟨rfl, H3⟩
            go_wp2
            go_ret
            exact ⟨by rw [← HR.out]; rfl, HC9.out.trans H3.out (by simp)⟩
      · have h2i : (16 : Int) < (hosts.length : Int) := by omega
        rw [decide_eq_false h2, Bool.and_false] at hz
        have HR := Lib.hid (show z = false from hz.symm)
        clear hz
        go_wp2_with fail
        refine (HM0.out _ (Lib.hid (hE.out.chg HC.out)) HA).mono ?_
        rintro e w2 ⟨rfl, H2⟩
        have HB2 := Lib.hid (HB.out.chg H2.out (by simp))
        have HC2 := Lib.hid (HC.out.trans H2.out (by simp))
        have HA2 := Lib.hid (HA.out.chg H2.out)
        have HN2 := Lib.hid (HN.out.chg H2.out (by simp))
        clear c0 c1 c2 c3 c4 c5 c6 c7 c8 c9 c10 c11 c12 c13 c14 c15 c16 c17 c18 c19 c20
        clear HB HC HA HN
        have HB := HB2
        have HC := HC2
        have HA := HA2
        have HN := HN2
        clear HB2 HC2 HA2 HN2
        (have HBb := HB.out;
         have c0 := HBb.cell 0 _ rfl;
         have c1 := HBb.cell 1 _ rfl;
         have c2 := HBb.cell 2 _ rfl;
         have c3 := HBb.cell 3 _ rfl;
         have c4 := HBb.cell 4 _ rfl;
         have c5 := HBb.cell 5 _ rfl;
         have c6 := HBb.cell 6 _ rfl;
         have c7 := HBb.cell 7 _ rfl;
         have c8 := HBb.cell 8 _ rfl;
         have c9 := HBb.cell 9 _ rfl;
         have c10 := HBb.cell 10 _ rfl;
         have c11 := HBb.cell 11 _ rfl;
         have c12 := HBb.cell 12 _ rfl;
         have c13 := HBb.cell 13 _ rfl;
         have c14 := HBb.cell 14 _ rfl;
         have c15 := HBb.cell 15 _ rfl;
         have c16 := HBb.cell 16 _ rfl;
         have c17 := HBb.cell 17 _ rfl;
         have c18 := HBb.cell 18 _ rfl;
         have c19 := HBb.cell 19 _ rfl;
         have c20 := HBb.cell 20 _ rfl;
         clear HBb)
        go_wp2
        go_ret
        exact ⟨by rw [HR.out]; rfl, HC.out⟩
    · have h1i : (hosts.length : Int) < 1 := by omega
      rw [decide_eq_false h1] at hz
      have HR := Lib.hid (show z = false from hz.symm)
      clear hz
      go_wp2_with fail
      refine (HM0.out _ (Lib.hid (hE.out.chg HC.out)) HA).mono ?_
      rintro e w2 ⟨rfl, H2⟩
      have HB2 := Lib.hid (HB.out.chg H2.out (by simp))
      have HC2 := Lib.hid (HC.out.trans H2.out (by simp))
      have HA2 := Lib.hid (HA.out.chg H2.out)
      have HN2 := Lib.hid (HN.out.chg H2.out (by simp))
      clear c0 c1 c2 c3 c4 c5 c6 c7 c8 c9 c10 c11 c12 c13 c14 c15 c16 c17 c18 c19 c20
      clear HB HC HA HN
      have HB := HB2
      have HC := HC2
      have HA := HA2
      have HN := HN2
      clear HB2 HC2 HA2 HN2
      (have HBb := HB.out;
       have c0 := HBb.cell 0 _ rfl;
       have c1 := HBb.cell 1 _ rfl;
       have c2 := HBb.cell 2 _ rfl;
       have c3 := HBb.cell 3 _ rfl;
       have c4 := HBb.cell 4 _ rfl;
       have c5 := HBb.cell 5 _ rfl;
       have c6 := HBb.cell 6 _ rfl;
       have c7 := HBb.cell 7 _ rfl;
       have c8 := HBb.cell 8 _ rfl;
       have c9 := HBb.cell 9 _ rfl;
       have c10 := HBb.cell 10 _ rfl;
       have c11 := HBb.cell 11 _ rfl;
       have c12 := HBb.cell 12 _ rfl;
       have c13 := HBb.cell 13 _ rfl;
       have c14 := HBb.cell 14 _ rfl;
       have c15 := HBb.cell 15 _ rfl;
       have c16 := HBb.cell 16 _ rfl;
       have c17 := HBb.cell 17 _ rfl;
       have c18 := HBb.cell 18 _ rfl;
       have c19 := HBb.cell 19 _ rfl;
       have c20 := HBb.cell 20 _ rfl;
       clear HBb)
      go_wp2
      go_ret
      exact ⟨by rw [HR.out]; rfl, HC.out⟩
end Go.Proofs.YtjndgkbikhndoaaGreatDoor

namespace Go.Proofs.YtjndgkbikhndoaaGreatDoor
open Go.RowKit Go.ChangeShapes Go.WideShapes
set_option linter.unusedVariables false
set_option linter.unusedSimpArgs false

/-- A whole row is loaded, in the list of the operations of a plain region. -/
theorem wpList_load_row {w : World} {ops : Array Oper} {rest : List Oper} {o : Oper} {a : Go.Act} {Q : Exit → Go.Act → World → Prop} (hgd : o.guard = none) (T : TypeId) (x : Operand) (ho : o.op = .load T x) (p : Addr) (v : Value)
    (hx : a.eval x = .pointer (some p)) (hr : (loadVar T p).run Tryz.prog w = .ok v w) (h : wpList Tryz.prog ops Q rest (a.put o.dst v) w) : wpList Tryz.prog ops Q (o :: rest) a w := by
  refine wpList_plain hgd fun K hK => ?_
  unfold Oper.wp execOp
  simp only [ho, hx, Instr.loadAt, Instr.sureAddr, Sem.run_bind, Sem.run_pure, Result.andThen_ok, hr]
  exact hK _ _ h
/-- A whole row is stored. -/
theorem wpList_store_row {w : World} {ops : Array Oper} {rest : List Oper} {o : Oper} {a : Go.Act} {Q : Exit → Go.Act → World → Prop} (hgd : o.guard = none) (T : TypeId) (x y : Operand) (ho : o.op = .store T x y) (p : Addr) (v : Value) (w' : World)
    (hx : a.eval x = .pointer (some p)) (hy : a.eval y = v) (hr : (storeVar T p v).run Tryz.prog w = .ok () w') (h : wpList Tryz.prog ops Q rest (a.put o.dst undef) w') : wpList Tryz.prog ops Q (o :: rest) a w := by
  refine wpList_plain hgd fun K hK => ?_
  unfold Oper.wp execOp
  simp only [ho, hx, hy, Instr.storeAt, Instr.sureAddr, Sem.run_bind, Sem.run_pure, Result.andThen_ok, hr]
  exact hK _ _ h
theorem load_row {w : World} {b o : Nat} (T : TypeId) (d : TypeDesc) (row : List Value) (hu : Tryz.prog.underlying T = some d) (hd : d.isRow = true) (hi : (Tryz.prog.info? T).map (·.size) = some row.length) (h : ∀ (j : Nat) (x : Value), row[j]? = some x → w.cell? ⟨b, o + j, none⟩ = some x) :
    (loadVar T ⟨b, o, none⟩).run Tryz.prog w = .ok (.agg row.toArray) w := run_loadVar_mid w b o T row d h hu hd hi
def zeroRt : Array Value := #[.string ⟨#[]⟩, .string ⟨#[]⟩, .slice none 0 0, .string ⟨#[]⟩, .string ⟨#[]⟩, .slice none 0 0, .int .i64 0, .int .i64 0, .int .i64 0, .int .i64 0, .int .i64 0, .int .i64 0, .int .i64 0, .int .i64 0, .int .i64 0, .int .i64 0, .int .i64 0, .int .i64 0, .int .i64 0, .int .i64 0, .int .i64 0]
def ok3 (z : Bool) : Int := if z then 0 else 3
theorem no_hosts {c : Cf} (h : c.hosts.all htOK = false) : rightB c = false := by unfold rightB; rw [h]; simp only [Bool.and_false, Bool.false_and]
theorem no_names {c : Cf} (h : ¬ (c.hosts.map (fun h => h.name)).Nodup) : rightB c = false := by unfold rightB; rw [decide_eq_false h]; simp only [Bool.and_false, Bool.false_and]
theorem no_routes {c : Cf} (h : c.routes.all (fun r => routeOK r c.hosts.length) = false) : rightB c = false := by unfold rightB; rw [h]; simp only [Bool.and_false, Bool.false_and]
theorem no_path {c : Cf} (h : pathOK c = false) : rightB c = false := by unfold rightB; rw [h]; simp only [Bool.and_false, Bool.false_and]
theorem no_nums {c : Cf} (h : allR c.nums = false) : rightB c = false := by unfold rightB; rw [h, Bool.and_false]
theorem no_len1 {c : Cf} (h : ¬ 1 ≤ c.hosts.length) : rightB c = false := by unfold rightB; rw [decide_eq_false h]; simp only [Bool.and_false, Bool.false_and]
theorem no_len2 {c : Cf} (h : ¬ c.hosts.length ≤ 16) : rightB c = false := by unfold rightB; rw [decide_eq_false h]; simp only [Bool.and_false, Bool.false_and]
theorem no_len3 {c : Cf} (h : ¬ 1 ≤ c.routes.length) : rightB c = false := by unfold rightB; rw [decide_eq_false h]; simp only [Bool.and_false, Bool.false_and]
theorem no_len4 {c : Cf} (h : ¬ c.routes.length ≤ 16) : rightB c = false := by unfold rightB; rw [decide_eq_false h]; simp only [Bool.and_false, Bool.false_and]
theorem yes_all {c : Cf} (h1 : 1 ≤ c.hosts.length) (h2 : c.hosts.length ≤ 16) (h3 : 1 ≤ c.routes.length) (h4 : c.routes.length ≤ 16) (h5 : c.hosts.all htOK = true) (h6 : (c.hosts.map (fun h => h.name)).Nodup) (h7 : c.routes.all (fun r => routeOK r c.hosts.length) = true) (h8 : pathOK c = true) (h9 : allR c.nums = true) : rightB c = true := by
  unfold rightB
  rw [decide_eq_true h1, decide_eq_true h2, decide_eq_true h3, decide_eq_true h4, h5, decide_eq_true h6, h7, h8, h9]
  rfl
theorem OwnS.tbl {B : Nat} {w : World} {v : Value} {ts : List ByteArray} (h : OwnS B w v ts) : Tbl w v 1 (strRows ts) := by
  have hlen : (strRows ts).length = ts.length := by unfold strRows; rw [List.length_map]
  rcases Nat.eq_zero_or_pos ts.length with h0 | h0
  · rcases h.2 with ⟨rfl, h1⟩ | ⟨g, cap, cur, rfl, hb, hh, h1, h2, h3, h4⟩
    · exact ⟨none, 0, by rw [hlen, h0], by rw [hlen, h0]; exact Nat.le_refl _, fun h => by rw [hlen] at h; omega⟩
    · exact ⟨some ⟨g, 0, none⟩, cap, by rw [hlen], by rw [hlen]; exact h1, fun h => by rw [hlen] at h; omega⟩
  · obtain ⟨g, cap, rfl, h1, h2, h3⟩ := h.read h0
    refine ⟨_, cap, by rw [hlen], by rw [hlen]; exact h1, fun _ => ⟨g, 0, rfl, h2, fun i r hr j x hj => ?_⟩⟩
    unfold strRows at hr
    rw [List.getElem?_map] at hr
    obtain ⟨t, ht, rfl⟩ := Option.map_eq_some_iff.1 hr
    match j, hj with
    | 0, hj =>
      have e : Value.string t = x := by simpa using hj
      rw [← e, Nat.mul_one, Nat.zero_add, Nat.add_zero]
      exact h3 i t ht
    | j + 1, hj => simp at hj
theorem OwnS.own_lt {B : Nat} {w : World} {v : Value} {ts : List ByteArray} (h : OwnS B w v ts) : ∀ q, v.ownBlock = some q → B ≤ q ∧ q < w.heap.size := fun q hq => World.ownsRow.lt h q hq
set_option maxHeartbeats 16000000 in
set_option maxRecDepth 100000 in
theorem check_any (c : Cf) (hv rv : Value) (ps : List (Value × Value)) (w : World) (hE : Hid (Env w)) (hC : Hid (CfAt w c hv rv ps)) (hS : Hid (CfSz c)) (z : Bool) (hz : rightB c = z) :
    Calls Tryz.prog 17 #[.agg (cfRow c hv rv).toArray] w fun e w' => e = .returned (.int .i64 (ok3 z)) ∧ Hid (Chg [] w w') := by
  have HZ := Lib.hid hz
  clear hz
  have hl1 : (c.hosts.map htRow).length = c.hosts.length := List.length_map _
  obtain ⟨A, cap, rfl⟩ := hC.out.hs.form
  rw [hl1] at hC ⊢
  have hl2 : ((c.routes.zip ps).map (fun x => rtRow x.1 x.2.1 x.2.2)).length = c.routes.length := by
    have := hC.out.rs.len
    rw [List.length_map, List.length_zip]
    omega
  obtain ⟨A2, cap2, rfl⟩ := hC.out.rs.tb.form
  rw [hl2] at hC ⊢
  have HL1 := Lib.hid hl1
  have HL2 := Lib.hid hl2
  have hcap := hC.out.hs.cap
  have hcap2 := hC.out.rs.tb.cap
  clear hl1 hl2
  have HB0 := Lib.hid (Blk.new w (cfRow c (.slice A c.hosts.length cap) (.slice A2 c.routes.length cap2)) 36)
  have HC0 := Lib.hid ((Chg.refl [] w).alloc (.cells (cfRow c (.slice A c.hosts.length cap) (.slice A2 c.routes.length cap2)).toArray 36))
  have hhn := hS.out.hn
  have hrn := hS.out.rn
  change Calls Tryz.prog 17 #[.agg #[.slice A c.hosts.length cap, .slice A2 c.routes.length cap2, .int .i64 c.every, .int .i64 c.timeout, .int .i64 c.up, .int .i64 c.down, .string c.path, .int .i64 c.fails, .int .i64 c.base, .int .i64 c.longest, .int .i64 c.share, .int .i64 c.maxHead, .int .i64 c.maxBody, .int .i64 c.maxOut, .int .i64 c.headTime, .int .i64 c.idle, .int .i64 c.life, .int .i64 c.clients]] w _
  go_enter Tryz.func17, Tryz.ntmps17
  go_upto_region 1 with fail
  change Hid (Blk (w.alloc (.cells #[.slice A c.hosts.length cap, .slice A2 c.routes.length cap2, .int .i64 c.every, .int .i64 c.timeout, .int .i64 c.up, .int .i64 c.down, .string c.path, .int .i64 c.fails, .int .i64 c.base, .int .i64 c.longest, .int .i64 c.share, .int .i64 c.maxHead, .int .i64 c.maxBody, .int .i64 c.maxOut, .int .i64 c.headTime, .int .i64 c.idle, .int .i64 c.life, .int .i64 c.clients] 36)) _ _ _) at HB0
  change Hid (Chg [] w (w.alloc (.cells #[.slice A c.hosts.length cap, .slice A2 c.routes.length cap2, .int .i64 c.every, .int .i64 c.timeout, .int .i64 c.up, .int .i64 c.down, .string c.path, .int .i64 c.fails, .int .i64 c.base, .int .i64 c.longest, .int .i64 c.share, .int .i64 c.maxHead, .int .i64 c.maxBody, .int .i64 c.maxOut, .int .i64 c.headTime, .int .i64 c.idle, .int .i64 c.life, .int .i64 c.clients] 36))) at HC0
  generalize w.alloc (.cells #[.slice A c.hosts.length cap, .slice A2 c.routes.length cap2, .int .i64 c.every, .int .i64 c.timeout, .int .i64 c.up, .int .i64 c.down, .string c.path, .int .i64 c.fails, .int .i64 c.base, .int .i64 c.longest, .int .i64 c.share, .int .i64 c.maxHead, .int .i64 c.maxBody, .int .i64 c.maxOut, .int .i64 c.headTime, .int .i64 c.idle, .int .i64 c.life, .int .i64 c.clients] 36) = W1 at HB0 HC0 ⊢
  generalize w.heap.size = b at HB0 ⊢
  have HB := HB0
  have HC := HC0
  clear HB0 HC0
  (have HBb := HB.out;
   have c0 := HBb.cell 0 _ rfl;
   have c1 := HBb.cell 1 _ rfl;
   have c2 := HBb.cell 2 _ rfl;
   have c3 := HBb.cell 3 _ rfl;
   have c4 := HBb.cell 4 _ rfl;
   have c5 := HBb.cell 5 _ rfl;
   have c6 := HBb.cell 6 _ rfl;
   have c7 := HBb.cell 7 _ rfl;
   have c8 := HBb.cell 8 _ rfl;
   have c9 := HBb.cell 9 _ rfl;
   have c10 := HBb.cell 10 _ rfl;
   have c11 := HBb.cell 11 _ rfl;
   have c12 := HBb.cell 12 _ rfl;
   have c13 := HBb.cell 13 _ rfl;
   have c14 := HBb.cell 14 _ rfl;
   have c15 := HBb.cell 15 _ rfl;
   have c16 := HBb.cell 16 _ rfl;
   have c17 := HBb.cell 17 _ rfl;
   clear HBb)
  by_cases h1 : 1 ≤ c.hosts.length
  · have h1i : ¬ (c.hosts.length : Int) < 1 := by omega
    by_cases h2 : c.hosts.length ≤ 16
    · have h2i : ¬ (16 : Int) < (c.hosts.length : Int) := by omega
      by_cases h3 : 1 ≤ c.routes.length
      · have h3i : ¬ (c.routes.length : Int) < 1 := by omega
        by_cases h4 : c.routes.length ≤ 16
        · have h4i : ¬ (16 : Int) < (c.routes.length : Int) := by omega
          go_wp2_with fail
          clear c0 c1 c2 c3 c4 c5 c6 c7 c8 c9 c10 c11 c12 c13 c14 c15 c16 c17
          go_loopw [3, 35] (fun v i wr => ∃ k : Nat, i = .int .i64 k ∧ k ≤ c.hosts.length ∧ Hid (OwnS W1.heap.size wr v ((c.hosts.take k).map (fun h => h.name))) ∧ Hid (∀ (j : Nat) (x : Ht), j < k → c.hosts[j]? = some x → htOK x = true) ∧ Hid (Chg [] W1 wr)) (fun _ i _ => c.hosts.length - (intOf i).toNat)
          case atStart => exact ⟨0, rfl, by omega, Lib.hid (OwnS.nil _ _), Lib.hid (fun j x hj => by omega), Chg.refl _ _⟩
          case round =>
            obtain ⟨k, rfl, hk, HO, HN, HCk⟩ := hrel
            by_cases hlt : k < c.hosts.length
            · obtain ⟨bh, oh, rfl, hbs, hx⟩ := hC.out.hs.at3 (by rw [HL1.out]; omega)
              obtain ⟨x, hxk⟩ : ∃ x, c.hosts[k]? = some x := ⟨_, List.getElem?_eq_getElem hlt⟩
              obtain ⟨q0, q1, q2⟩ := hx k _ _ _ (by rw [List.getElem?_map, hxk]; rfl)
              have HCa := Lib.hid (HC.out.trans HCk.out (by simp))
              have q0 := HCa.out.cell q0 (by simp)
              have q1 := HCa.out.cell q1 (by simp)
              have q2 := HCa.out.cell q2 (by simp)
              have HBk := HB.out.chg HCk.out (by simp)
              have hns := hS.out.hs x (List.mem_of_getElem? hxk)
              have HX := Lib.hid hxk
              clear hx hxk
              obtain ⟨name, cp, pd⟩ := x
              dsimp only at q0 q1 q2 hns
              obtain ⟨Av, cv, rfl⟩ := HO.out.form
              have HTK := Lib.hid (show (c.hosts.take (k + 1)).map (fun h => h.name) = (c.hosts.take k).map (fun h => h.name) ++ [name] from by rw [List.take_add_one, HX.out, List.map_append]; rfl)
              have htl : ((c.hosts.take k).map (fun h => h.name)).length ≤ 1048576 := by rw [List.length_map, List.length_take]; omega
              have HPb0 := Lib.hid (Blk.new wr [.string name, .int .i64 cp, .int .i64 pd] 45)
              have HO1 := Lib.hid (ownsRow_chg HO.out ((Chg.refl [] wr).alloc (.cells #[.string name, .int .i64 cp, .int .i64 pd] 45)))
              have HC1 := Lib.hid (HCk.out.alloc (.cells #[.string name, .int .i64 cp, .int .i64 pd] 45))
              have hown : ∀ q, (Value.slice Av ((c.hosts.take k).map (fun h => h.name)).length cv).ownBlock = some q → q < wr.heap.size := fun q hq => (HO.out.own_lt q hq).2
              have HOW := Lib.hid hown
              have c0 := HBk.cell 0 _ rfl
              generalize htk : (c.hosts.take k).map (fun h => h.name) = tk at *
              clear htk hown HBk
              go_upto_region 7 with fail
              change Hid (Blk (wr.alloc (.cells #[.string name, .int .i64 cp, .int .i64 pd] 45)) _ _ _) at HPb0
              generalize wr.alloc (.cells #[.string name, .int .i64 cp, .int .i64 pd] 45) = Wp at HPb0 HO1 HC1 ⊢
              generalize wr.heap.size = p at HPb0 HOW ⊢
              clear q0 q1 q2 c0
              obtain ⟨v5, w5, hr, ho, hg⟩ := run_pushS 22 W1.heap.size (Wp.alloc (.cells #[.string name] 9)) (.slice Av tk.length cv) tk name Wp.heap.size (ownsRow_chg HO1.out ((Chg.refl [] Wp).alloc _)) (Blk.new _ _ _) (by omega) (by have := HC1.out.size; simp; omega)
              have HO5 := Lib.hid ho
              have HC5 := Lib.hid (Chg.grownOwn (HC1.out.alloc (.cells #[.string name] 9)) (ownsRow_chg HO1.out ((Chg.refl [] Wp).alloc (.cells #[.string name] 9))) (Nat.le_refl _) hg)
              have hcb : Chg (Value.slice Av tk.length cv).ownBlock.toList (Wp.alloc (.cells #[.string name] 9)) w5 := (Chg.refl _ _).grown hg (by intro i hi _; rw [hi]; simp)
              have HP5 := Lib.hid ((HPb0.out.alloc (.cells #[.string name] 9)).chg hcb (fun hm => by have := HOW.out p (Option.mem_toList.1 hm); omega))
              have d0 := HPb0.out.cell 0 _ rfl
              clear ho hg hcb
              go_upto_region 8 with (at_builtin; refine wpList_appS rfl _ _ rfl _ _ rfl rfl v5 w5 hr ?_)
              clear d0 hr
              have d0 := HP5.out.cell 0 _ rfl
              have HCC := Lib.hid (HC.out.trans HC5.out (by simp))
              go_wp2_with fail
              clear d0
              cases hh : hostOK name
              · have HR := Lib.hid (show z = false from by rw [← HZ.out]; exact no_hosts (any_hit HX.out (by unfold htOK; rw [hh]; rfl)))
                have HH := Lib.hid hh
                clear hh
                refine (chost_any name _ hns (Lib.hid (hE.out.chg HCC.out)) false HH.out).mono ?_
                rintro e w6 ⟨rfl, H6⟩
                go_wp2_with fail
                go_ret
                exact ⟨by rw [HR.out]; rfl, HCC.out.trans H6.out (by simp)⟩
              · have HH := Lib.hid hh
                have HHT := Lib.hid (show htOK ⟨name, cp, pd⟩ = allR [(cp, 1, 64), (pd, 0, 64)] from by unfold htOK; rw [hh]; rfl)
                clear hh
                refine (chost_any name _ hns (Lib.hid (hE.out.chg HCC.out)) true HH.out).mono ?_
                rintro e w6 ⟨rfl, H6⟩
                have HP6 := Lib.hid (HP5.out.chg H6.out (by simp))
                have d1 := HP6.out.cell 1 _ rfl
                have d2 := HP6.out.cell 2 _ rfl
                have HC6 := Lib.hid (HC5.out.trans H6.out (by simp))
                have HO6 := Lib.hid (ownsRow_chg HO5.out H6.out)
                go_wp2_with fail
                have HT := Lib.hid (Tbl.ofBlk (rows := spanRows [(cp, 1, 64), (pd, 0, 64)]) (Blk.new w6 (spanRows [(cp, 1, 64), (pd, 0, 64)]).flatten 66) rfl (span_len _))
                refine (within_any (.slice (some ⟨w6.heap.size, 0, none⟩) 2 2) [(cp, 1, 64), (pd, 0, 64)] _ HT (by show 2 ≤ 1000; omega)).mono ?_
                rintro e w7 ⟨rfl, H7⟩
                have HCx := Lib.hid ((HC6.out.alloc (.cells (spanRows [(cp, 1, 64), (pd, 0, 64)]).flatten.toArray 66)).trans H7.out (by simp))
                have HOx := Lib.hid (ownsRow_chg (ownsRow_chg HO6.out ((Chg.refl [] w6).alloc (.cells (spanRows [(cp, 1, 64), (pd, 0, 64)]).flatten.toArray 66))) H7.out)
                clear d1 d2
                cases hal : allR [(cp, 1, 64), (pd, 0, 64)]
                · have HR := Lib.hid (show z = false from by rw [← HZ.out]; exact no_hosts (any_hit HX.out (by rw [HHT.out, hal])))
                  clear hal
                  go_wp2_with fail
                  go_ret
                  exact ⟨by rw [HR.out]; rfl, HC.out.trans HCx.out (by simp)⟩
                · have HN2 := Lib.hid (next_good (p := htOK) HN.out HX.out (by rw [HHT.out, hal]))
                  clear hal
                  go_wp2_with fail
                  go_roundw
                  case rel => exact ⟨k + 1, by go_num, by omega, by rw [HTK.out]; exact HOx, HN2, HCx⟩
                  case measure => simp [intOf]; omega
            · have hke : k = c.hosts.length := by omega
              subst hke
              have HALL := Lib.hid (show c.hosts.all htOK = true from all_good HN.out)
              rw [List.take_length] at HO
              have HB1 := Lib.hid (HB.out.chg HCk.out (by simp))
              have HC1 := Lib.hid (HC.out.trans HCk.out (by simp))
              have hnl : (c.hosts.map (fun h => h.name)).length ≤ 1048576 := by rw [List.length_map]; omega
              go_wp2_with fail
              by_cases hnd : (c.hosts.map (fun h => h.name)).Nodup
              · have HND := Lib.hid hnd
                have HT := Lib.hid (twiceS_any _ (c.hosts.map (fun h => h.name)) wr (Lib.hid HO.out.tbl) hnl)
                rw [decide_eq_true hnd] at HT
                clear hnd hnl
                refine HT.out.mono ?_
                rintro e w2 ⟨rfl, rfl⟩
                clear HB HC
                have HB := HB1
                have HC := HC1
                clear HB1 HC1 HCk HN HO HT
                (have HBb := HB.out;
                 have c0 := HBb.cell 0 _ rfl;
                 have c1 := HBb.cell 1 _ rfl;
                 have c2 := HBb.cell 2 _ rfl;
                 have c3 := HBb.cell 3 _ rfl;
                 have c4 := HBb.cell 4 _ rfl;
                 have c5 := HBb.cell 5 _ rfl;
                 have c6 := HBb.cell 6 _ rfl;
                 have c7 := HBb.cell 7 _ rfl;
                 have c8 := HBb.cell 8 _ rfl;
                 have c9 := HBb.cell 9 _ rfl;
                 have c10 := HBb.cell 10 _ rfl;
                 have c11 := HBb.cell 11 _ rfl;
                 have c12 := HBb.cell 12 _ rfl;
                 have c13 := HBb.cell 13 _ rfl;
                 have c14 := HBb.cell 14 _ rfl;
                 have c15 := HBb.cell 15 _ rfl;
                 have c16 := HBb.cell 16 _ rfl;
                 have c17 := HBb.cell 17 _ rfl;
                 clear HBb)
                go_wp2_with fail
                clear c0 c1 c2 c3 c4 c5 c6 c7 c8 c9 c10 c11 c12 c13 c14 c15 c16 c17
                go_loopw [65] (fun i wx => ∃ k : Nat, i = .int .i64 k ∧ k ≤ c.routes.length ∧ Hid (∀ (j : Nat) (x : Rt), j < k → c.routes[j]? = some x → routeOK x c.hosts.length = true) ∧ Hid (Chg [] w2 wx)) (fun i _ => c.routes.length - (intOf i).toNat)
                case atStart => exact ⟨0, rfl, by omega, Lib.hid (fun j x hj => by omega), Chg.refl _ _⟩
                case round =>
                  obtain ⟨k2, rfl, hk2, HN, HCk⟩ := hrel
                  have HCr := Lib.hid (HC.out.trans HCk.out (by simp))
                  have HBr := Lib.hid (HB.out.chg HCk.out (by simp))
                  by_cases hlt2 : k2 < c.routes.length
                  · obtain ⟨r, hr⟩ : ∃ r, c.routes[k2]? = some r := ⟨_, List.getElem?_eq_getElem hlt2⟩
                    obtain ⟨p, hp⟩ : ∃ p, ps[k2]? = some p := ⟨_, List.getElem?_eq_getElem (by rw [hC.out.rs.len]; exact hlt2)⟩
                    have hrow : ((c.routes.zip ps).map (fun x => rtRow x.1 x.2.1 x.2.2))[k2]? = some (rtRow r p.1 p.2) := by
                      rw [List.getElem?_map, (List.getElem?_zip_eq_some (z := (r, p))).2 ⟨hr, hp⟩]
                      rfl
                    have HRA := Lib.hid (hC.out.rs.each k2 r p hr hp)
                    obtain ⟨p1, p2⟩ := p
                    dsimp only at HRA hrow
                    obtain ⟨Am, cm, rfl⟩ := HRA.out.ms.form
                    obtain ⟨Ah, ch, rfl⟩ := HRA.out.hs.form
                    generalize hlm : (strRows r.m.methods).length = lm at *
                    generalize hlh : (intRows r.hosts).length = lh at *
                    clear hlm hlh
                    obtain ⟨A3, cap3, e3, -, h3⟩ := hC.out.rs.tb
                    injection e3 with e31 e32 e33
                    subst e31
                    obtain ⟨br, or, rfl, hbr, hx⟩ := h3 (by rw [HL2.out]; omega)
                    have HLD := Lib.hid (load_row 42 _ (rtRow r (.slice Am lm cm) (.slice Ah lh ch)) Tryz.underlying42 rfl (by kernel_rfl) (fun j x hj => HCr.out.cell (hx k2 _ hrow j x hj) (by simp)))
                    have HST := Lib.hid (run_storeVar_new (P := Tryz.prog) wr 42 zeroRt (rtRow r (.slice Am lm cm) (.slice Ah lh ch)).toArray (by kernel_rfl) rfl (by simp [Value.oneCell', rtRow]))
                    have HRS := Lib.hid (hS.out.rs r (List.mem_of_getElem? hr))
                    have HX := Lib.hid hr
                    clear hx hrow hr hp h3 e32 e33 hbr
                    go_upto_region 16 with (first | refine wpList_load_row rfl 42 _ rfl ⟨br, or + k2 * 21, none⟩ _ rfl HLD.out ?_ | refine wpList_store_row rfl 42 _ _ rfl ⟨wr.heap.size, 0, none⟩ _ _ rfl rfl HST.out ?_)
                    have HBL := Lib.hid (Blk.new wr (rtRow r (.slice Am lm cm) (.slice Ah lh ch)) 42)
                    have HBz := Lib.hid (HBr.out.alloc (.cells (rtRow r (.slice Am lm cm) (.slice Ah lh ch)).toArray 42))
                    have HCz := Lib.hid (HCk.out.alloc (.cells (rtRow r (.slice Am lm cm) (.slice Ah lh ch)).toArray 42))
                    generalize wr.alloc (.cells (rtRow r (.slice Am lm cm) (.slice Ah lh ch)).toArray 42) = Wz at HBL HBz HCz ⊢
                    generalize wr.heap.size = p at HBL ⊢
                    have HLD2 := Lib.hid (load_row 42 _ (rtRow r (.slice Am lm cm) (.slice Ah lh ch)) Tryz.underlying42 rfl (by kernel_rfl) (fun j x hj => by rw [Nat.zero_add]; exact HBL.out.cell j x hj))
                    have HCw := Lib.hid (HC.out.trans HCz.out (by simp))
                    have HRz := Lib.hid (HRA.out.chg HCw.out)
                    have c0 := HBz.out.cell 0 _ rfl
                    clear HLD HST HBr HCr HBL
                    go_wp2_with (refine wpList_load_row rfl 42 _ rfl ⟨p, 0, none⟩ _ rfl HLD2.out ?_)
                    clear c0
                    cases hrt : routeOK r c.hosts.length
                    · have HR := Lib.hid (show z = false from by rw [← HZ.out]; exact no_routes (any_hit HX.out hrt))
                      have HRT := Lib.hid hrt
                      clear hrt
                      refine (croute_any r _ _ c.hosts.length _ (Lib.hid (hE.out.chg HCw.out)) HRz HRS false HRT.out).mono ?_
                      rintro e w8 ⟨rfl, H8⟩
                      go_wp2_with fail
                      go_ret
                      exact ⟨by rw [HR.out]; rfl, HCw.out.trans H8.out (by simp)⟩
                    · have HN2 := Lib.hid (next_good (p := fun r : Rt => routeOK r c.hosts.length) HN.out HX.out hrt)
                      have HRT := Lib.hid hrt
                      clear hrt
                      refine (croute_any r _ _ c.hosts.length _ (Lib.hid (hE.out.chg HCw.out)) HRz HRS true HRT.out).mono ?_
                      rintro e w8 ⟨rfl, H8⟩
                      go_wp2_with fail
                      go_roundw
                      case rel => exact ⟨k2 + 1, by go_num, by omega, HN2, HCz.out.trans H8.out (by simp)⟩
                      case measure => simp [intOf]; omega
                  · have hke : k2 = c.routes.length := by omega
                    subst hke
                    have HALL2 := Lib.hid (show c.routes.all (fun r => routeOK r c.hosts.length) = true from all_good HN.out)
                    clear HB HC
                    have HB := HBr
                    have HC := HCr
                    clear HBr HCr HCk HN
                    (have HBb := HB.out;
                     have c0 := HBb.cell 0 _ rfl;
                     have c1 := HBb.cell 1 _ rfl;
                     have c2 := HBb.cell 2 _ rfl;
                     have c3 := HBb.cell 3 _ rfl;
                     have c4 := HBb.cell 4 _ rfl;
                     have c5 := HBb.cell 5 _ rfl;
                     have c6 := HBb.cell 6 _ rfl;
                     have c7 := HBb.cell 7 _ rfl;
                     have c8 := HBb.cell 8 _ rfl;
                     have c9 := HBb.cell 9 _ rfl;
                     have c10 := HBb.cell 10 _ rfl;
                     have c11 := HBb.cell 11 _ rfl;
                     have c12 := HBb.cell 12 _ rfl;
                     have c13 := HBb.cell 13 _ rfl;
                     have c14 := HBb.cell 14 _ rfl;
                     have c15 := HBb.cell 15 _ rfl;
                     have c16 := HBb.cell 16 _ rfl;
                     have c17 := HBb.cell 17 _ rfl;
                     clear HBb)
                    have hps := hS.out.path
                    go_upto_region 19 with fail
                    go_cut [8] (fun s8 wx => s8 = .bool (pathOK c) ∧ Hid (Blk wx b (cfRow c (.slice A c.hosts.length cap) (.slice A2 c.routes.length cap2)) 36) ∧ Hid (Chg [] w wx))
                    case first =>
                      go_wp2_with fail
                      have hpo : pathOK c = ((placeOK c.path && decide (c.path.size ≤ 8179)) || (decide (c.path.size = 0) && decide (c.every = 0))) := rfl
                      obtain ⟨pl, hpl⟩ : ∃ pl, placeOK c.path = pl := ⟨_, rfl⟩
                      rw [hpl] at hpo
                      have HPO := Lib.hid hpo
                      refine (cplace_any c.path _ (Lib.hid (hE.out.chg HC.out)) pl hpl).mono ?_
                      rintro e w9 ⟨rfl, H9⟩
                      have HB9 := Lib.hid (HB.out.chg H9.out (by simp))
                      have HC9 := Lib.hid (HC.out.trans H9.out (by simp))
                      clear hpo hpl
                      clear c0 c1 c2 c3 c4 c5 c6 c7 c8 c9 c10 c11 c12 c13 c14 c15 c16 c17
                      have c2 := HB9.out.cell 2 _ rfl
                      have c6 := HB9.out.cell 6 _ rfl
                      cases pl
                      · rw [Bool.false_and, Bool.false_or] at HPO
                        by_cases k1 : c.path.size = 0
                        · have k2 := emp_true k1
                          by_cases k3 : c.every = 0
                          · have HP := Lib.hid (show pathOK c = true from by rw [HPO.out, decide_eq_true k1, decide_eq_true k3]; rfl)
                            have k4 : (c.every == 0) = true := beq_iff_eq.2 k3
                            clear k1 k3
                            go_wp2_with fail
                            go_meet
                            exact ⟨by first | (rw [HP.out]; done) | (rw [HP.out, HK5.out]; done) | (rw [HP.out]; rfl), HB9, HC9⟩
                          · have HP := Lib.hid (show pathOK c = false from by rw [HPO.out, decide_eq_false k3, Bool.and_false])
                            have k4 : (c.every == 0) = false := beq_eq_false_iff_ne.2 k3
                            clear k1 k3
                            go_wp2_with fail
                            go_meet
                            exact ⟨by first | (rw [HP.out]; done) | (rw [HP.out, HK5.out]; done) | (rw [HP.out]; rfl), HB9, HC9⟩
                        · have HP := Lib.hid (show pathOK c = false from by rw [HPO.out, decide_eq_false k1]; rfl)
                          have k2 := emp_false k1
                          clear k1
                          go_wp2_with fail
                          go_meet
                          exact ⟨by first | (rw [HP.out]; done) | (rw [HP.out, HK5.out]; done) | (rw [HP.out]; rfl), HB9, HC9⟩
                      · by_cases k1 : c.path.size ≤ 8179
                        · have HP := Lib.hid (show pathOK c = true from by rw [HPO.out, decide_eq_true k1]; rfl)
                          have k2 : (c.path.size : Int) ≤ 8179 := by omega
                          clear k1
                          go_wp2_with fail
                          go_meet
                          exact ⟨by first | (rw [HP.out]; done) | (rw [HP.out, HK5.out]; done) | (rw [HP.out]; rfl), HB9, HC9⟩
                        · have HP := Lib.hid (show pathOK c = false from by rw [HPO.out, decide_eq_false k1, decide_eq_false (show ¬ c.path.size = 0 by omega)]; rfl)
                          have k2 : ¬ (c.path.size : Int) ≤ 8179 := by omega
                          have HK5 := Lib.hid (show decide ((c.path.size : Int) ≤ 8179) = false from decide_eq_false k2)
                          have k3 := emp_false (s := c.path) (by omega)
                          clear k1
                          go_wp2_with fail
                          go_meet
                          exact ⟨by first | (rw [HP.out]; done) | (rw [HP.out, HK5.out]; done) | (rw [HP.out]; rfl), HB9, HC9⟩
                    case rest =>
                    clear c0 c1 c2 c3 c4 c5 c6 c7 c8 c9 c10 c11 c12 c13 c14 c15 c16 c17
                    clear HB HC
                    obtain ⟨rfl, HB, HC⟩ := hcut
                    (have HBb := HB.out;
                     have c0 := HBb.cell 0 _ rfl;
                     have c1 := HBb.cell 1 _ rfl;
                     have c2 := HBb.cell 2 _ rfl;
                     have c3 := HBb.cell 3 _ rfl;
                     have c4 := HBb.cell 4 _ rfl;
                     have c5 := HBb.cell 5 _ rfl;
                     have c6 := HBb.cell 6 _ rfl;
                     have c7 := HBb.cell 7 _ rfl;
                     have c8 := HBb.cell 8 _ rfl;
                     have c9 := HBb.cell 9 _ rfl;
                     have c10 := HBb.cell 10 _ rfl;
                     have c11 := HBb.cell 11 _ rfl;
                     have c12 := HBb.cell 12 _ rfl;
                     have c13 := HBb.cell 13 _ rfl;
                     have c14 := HBb.cell 14 _ rfl;
                     have c15 := HBb.cell 15 _ rfl;
                     have c16 := HBb.cell 16 _ rfl;
                     have c17 := HBb.cell 17 _ rfl;
                     clear HBb)
                    have HNU : Hid (c.nums = [(c.every, 0, M6), (c.timeout, 1, M6), (c.up, 1, 100), (c.down, 1, 100), (c.fails, 0, 1000), (c.base, 1, M6), (c.longest, max 1 c.base, M6), (c.share, 0, 100), (c.maxHead, 16, 65536), (c.maxBody, 0, 1048576), (c.maxOut, 1, 1048576), (c.headTime, 1, M6), (c.idle, 1, M6), (c.life, 1, M6), (c.clients, 1, 256)]) := Lib.hid rfl
                    have HFIN : Hid (∀ q u, pathOK c = q → allR c.nums = u → z = (q && u)) := Lib.hid (fun q u hq hu => by
                      cases q
                      · rw [← HZ.out]; exact no_path hq
                      · cases u
                        · rw [← HZ.out]; exact no_nums hu
                        · rw [← HZ.out]; exact yes_all h1 h2 h3 h4 HALL.out HND.out HALL2.out hq hu)
                    clear h1 h2 h3 h4
                    obtain ⟨q, hqq⟩ : ∃ q, pathOK c = q := ⟨_, rfl⟩
                    rw [hqq]
                    have HQQ := Lib.hid hqq
                    clear hqq
                    cases q
                    · have HR := Lib.hid (show z = false from HFIN.out _ _ HQQ.out rfl)
                      go_wp2_with fail
                      go_ret
                      exact ⟨by rw [HR.out]; rfl, HC.out.alloc _⟩
                    · obtain ⟨u, hu⟩ : ∃ u, allR c.nums = u := ⟨_, rfl⟩
                      have HR := Lib.hid (show z = u from HFIN.out _ _ HQQ.out hu)
                      rw [HNU.out] at hu
                      have HU := Lib.hid hu
                      clear hu
                      go_wp2_with fail
                      have HT := Lib.hid (Tbl.ofBlk (rows := spanRows [(c.every, 0, M6), (c.timeout, 1, M6), (c.up, 1, 100), (c.down, 1, 100), (c.fails, 0, 1000), (c.base, 1, M6), (c.longest, (max 1 c.base), M6), (c.share, 0, 100), (c.maxHead, 16, 65536), (c.maxBody, 0, 1048576), (c.maxOut, 1, 1048576), (c.headTime, 1, M6), (c.idle, 1, M6), (c.life, 1, M6), (c.clients, 1, 256)]) (Blk.new wc (spanRows [(c.every, 0, M6), (c.timeout, 1, M6), (c.up, 1, 100), (c.down, 1, 100), (c.fails, 0, 1000), (c.base, 1, M6), (c.longest, (max 1 c.base), M6), (c.share, 0, 100), (c.maxHead, 16, 65536), (c.maxBody, 0, 1048576), (c.maxOut, 1, 1048576), (c.headTime, 1, M6), (c.idle, 1, M6), (c.life, 1, M6), (c.clients, 1, 256)]).flatten 66) rfl (span_len _))
                      have HC9 := Lib.hid (HC.out.alloc (.cells (spanRows [(c.every, 0, M6), (c.timeout, 1, M6), (c.up, 1, 100), (c.down, 1, 100), (c.fails, 0, 1000), (c.base, 1, M6), (c.longest, (max 1 c.base), M6), (c.share, 0, 100), (c.maxHead, 16, 65536), (c.maxBody, 0, 1048576), (c.maxOut, 1, 1048576), (c.headTime, 1, M6), (c.idle, 1, M6), (c.life, 1, M6), (c.clients, 1, 256)]).flatten.toArray 66))
                      clear c0 c1 c2 c3 c4 c5 c6 c7 c8 c9 c10 c11 c12 c13 c14 c15 c16 c17
                      refine (within_any (.slice (some ⟨wc.heap.size, 0, none⟩) 15 15) [(c.every, 0, M6), (c.timeout, 1, M6), (c.up, 1, 100), (c.down, 1, 100), (c.fails, 0, 1000), (c.base, 1, M6), (c.longest, (max 1 c.base), M6), (c.share, 0, 100), (c.maxHead, 16, 65536), (c.maxBody, 0, 1048576), (c.maxOut, 1, 1048576), (c.headTime, 1, M6), (c.idle, 1, M6), (c.life, 1, M6), (c.clients, 1, 256)] _ HT (by show 15 ≤ 1000; omega)).mono ?_
                      rintro e w3 ⟨rfl, H3⟩
                      rw [HU.out]
                      cases u
                      · go_wp2_with fail
                        go_ret
                        exact ⟨by rw [HR.out]; rfl, HC9.out.trans H3.out (by simp)⟩
                      · go_wp2_with fail
                        go_ret
                        exact ⟨by rw [HR.out]; rfl, HC9.out.trans H3.out (by simp)⟩
              · have HR := Lib.hid (show z = false from by rw [← HZ.out]; exact no_names hnd)
                have HT := Lib.hid (twiceS_any _ (c.hosts.map (fun h => h.name)) wr (Lib.hid HO.out.tbl) hnl)
                rw [decide_eq_false hnd] at HT
                clear hnd
                refine HT.out.mono ?_
                rintro e w2 ⟨rfl, rfl⟩
                go_wp2_with fail
                go_ret
                exact ⟨by rw [HR.out]; rfl, HC1.out⟩
        · have h4i : (16 : Int) < (c.routes.length : Int) := by omega
          have HR := Lib.hid (show z = false from by rw [← HZ.out]; exact no_len4 h4)
          go_wp2_with fail
          go_ret
          exact ⟨by rw [HR.out]; rfl, HC.out⟩
      · have h3i : (c.routes.length : Int) < 1 := by omega
        have HR := Lib.hid (show z = false from by rw [← HZ.out]; exact no_len3 h3)
        go_wp2_with fail
        go_ret
        exact ⟨by rw [HR.out]; rfl, HC.out⟩
    · have h2i : (16 : Int) < (c.hosts.length : Int) := by omega
      have HR := Lib.hid (show z = false from by rw [← HZ.out]; exact no_len2 h2)
      go_wp2_with fail
      go_ret
      exact ⟨by rw [HR.out]; rfl, HC.out⟩
  · have h1i : (c.hosts.length : Int) < 1 := by omega
    have HR := Lib.hid (show z = false from by rw [← HZ.out]; exact no_len1 h1)
    go_wp2_with fail
    go_ret
    exact ⟨by rw [HR.out]; rfl, HC.out⟩
end Go.Proofs.YtjndgkbikhndoaaGreatDoor

namespace Go.Proofs.YtjndgkbikhndoaaGreatDoor
open Go.RowKit Go.ChangeShapes Go.WideShapes
set_option linter.unusedVariables false

def capsK (c : Cf) (k : Nat) : Int := ((c.hosts.take k).map (fun h => h.cap)).sum
theorem capsK_succ {c : Cf} {k : Nat} {x : Ht} (h : c.hosts[k]? = some x) : capsK c (k + 1) = capsK c k + x.cap := by
  unfold capsK
  rw [List.take_add_one, h, List.map_append, List.sum_append]
  simp
theorem capsK_all (c : Cf) : capsK c c.hosts.length = capsN c := by
  unfold capsK capsN
  rw [List.take_length]
theorem capsK_bd (c : Cf) (hcp : ∀ h, h ∈ c.hosts → 1 ≤ h.cap ∧ h.cap ≤ 64) : ∀ k, k ≤ c.hosts.length → (k : Int) ≤ capsK c k ∧ capsK c k ≤ 64 * k := by
  intro k
  induction k with
  | zero => intro _; unfold capsK; simp
  | succ k ih =>
    intro hk
    obtain ⟨x, hx⟩ : ∃ x, c.hosts[k]? = some x := ⟨_, List.getElem?_eq_getElem (by omega)⟩
    have h1 := ih (by omega)
    have h2 := hcp x (List.mem_of_getElem? hx)
    rw [capsK_succ hx]
    omega
/-- The hosts' slice: what the numbers' functions ask. -/
structure HtsAt (w : World) (c : Cf) (hv : Value) : Prop where
  hs : Tbl w hv 3 (c.hosts.map htRow)
  hn : c.hosts.length ≤ 16
  hc : ∀ h, h ∈ c.hosts → 1 ≤ h.cap ∧ h.cap ≤ 64
set_option maxHeartbeats 8000000 in
set_option maxRecDepth 100000 in
theorem caps_any (c : Cf) (A rv : Value) (w : World) (hC : Hid (HtsAt w c A)) :
    Calls Tryz.prog 39 #[.agg (cfRow c A rv).toArray] w fun e w' => e = .returned (.int .i64 (capsN c)) ∧ Hid (Chg [] w w') := by
  have hl1 : (c.hosts.map htRow).length = c.hosts.length := List.length_map _
  obtain ⟨A, cap, rfl⟩ := hC.out.hs.form
  rw [hl1] at hC ⊢
  have HL1 := Lib.hid hl1
  have hcap := hC.out.hs.cap
  have hhn := hC.out.hn
  clear hl1
  have HC0 := Lib.hid ((Chg.refl [] w).alloc (.cells (cfRow c (.slice A c.hosts.length cap) rv).toArray 36))
  have HCA := Lib.hid (capsK_all c)
  have HBD := Lib.hid (capsK_bd c hC.out.hc)
  change Calls Tryz.prog 39 #[.agg #[.slice A c.hosts.length cap, rv, .int .i64 c.every, .int .i64 c.timeout, .int .i64 c.up, .int .i64 c.down, .string c.path, .int .i64 c.fails, .int .i64 c.base, .int .i64 c.longest, .int .i64 c.share, .int .i64 c.maxHead, .int .i64 c.maxBody, .int .i64 c.maxOut, .int .i64 c.headTime, .int .i64 c.idle, .int .i64 c.life, .int .i64 c.clients]] w _
  go_enter Tryz.func39, Tryz.ntmps39
  go_wp2_with fail
  change Hid (Chg [] w (w.alloc (.cells #[.slice A c.hosts.length cap, rv, .int .i64 c.every, .int .i64 c.timeout, .int .i64 c.up, .int .i64 c.down, .string c.path, .int .i64 c.fails, .int .i64 c.base, .int .i64 c.longest, .int .i64 c.share, .int .i64 c.maxHead, .int .i64 c.maxBody, .int .i64 c.maxOut, .int .i64 c.headTime, .int .i64 c.idle, .int .i64 c.life, .int .i64 c.clients] 36))) at HC0
  generalize w.alloc (.cells #[.slice A c.hosts.length cap, rv, .int .i64 c.every, .int .i64 c.timeout, .int .i64 c.up, .int .i64 c.down, .string c.path, .int .i64 c.fails, .int .i64 c.base, .int .i64 c.longest, .int .i64 c.share, .int .i64 c.maxHead, .int .i64 c.maxBody, .int .i64 c.maxOut, .int .i64 c.headTime, .int .i64 c.idle, .int .i64 c.life, .int .i64 c.clients] 36) = W1 at HC0 ⊢
  go_loopw [3, 9] (fun s i wr => ∃ (k : Nat) (n : Int), i = .int .i64 k ∧ k ≤ c.hosts.length ∧ s = .int .i64 n ∧ Hid (capsK c k = n) ∧ 0 ≤ n ∧ n ≤ 1024 ∧ Hid (Chg [] w wr)) (fun _ i _ => c.hosts.length - (intOf i).toNat)
  case atStart => exact ⟨0, 0, rfl, by omega, rfl, Lib.hid rfl, by omega, by omega, HC0⟩
  case round =>
    obtain ⟨k, n, rfl, hk, rfl, HN, n0, n1, HC⟩ := hrel
    by_cases hlt : k < c.hosts.length
    · obtain ⟨bh, oh, rfl, hbs, hx⟩ := hC.out.hs.at3 (by rw [HL1.out]; omega)
      obtain ⟨x, hxk⟩ : ∃ x, c.hosts[k]? = some x := ⟨_, List.getElem?_eq_getElem hlt⟩
      obtain ⟨q0, q1, q2⟩ := hx k _ _ _ (by rw [List.getElem?_map, hxk]; rfl)
      have q0 := HC.out.cell q0 (by simp)
      have q1 := HC.out.cell q1 (by simp)
      have q2 := HC.out.cell q2 (by simp)
      have hbd := HBD.out (k + 1) (by omega)
      have hcx := hC.out.hc x (List.mem_of_getElem? hxk)
      have hs := capsK_succ hxk
      rw [HN.out] at hs
      rw [hs] at hbd
      have HS := Lib.hid hs
      clear hx hxk hs
      obtain ⟨name, cp, pd⟩ := x
      dsimp only at q0 q1 q2 hbd HS hcx
      have HC2 := Lib.hid (HC.out.alloc (.cells #[.string name, .int .i64 cp, .int .i64 pd] 45))
      have hw : IntKind.i64.wrap (n + cp) = n + cp := by
        unfold IntKind.wrap IntKind.bits IntKind.signed
        simp
        omega
      go_wp2_with fail
      go_roundw
      case rel => exact ⟨k + 1, n + cp, by go_num, by omega, by first | rfl | go_num, HS, by omega, by omega, HC2⟩
      case measure => simp [intOf]; omega
    · obtain rfl : k = c.hosts.length := by omega
      have HR := Lib.hid (show n = capsN c from by rw [← HN.out, HCA.out])
      go_wp2_with fail
      go_ret
      exact ⟨by rw [← HR.out]; rfl, HC.out⟩
end Go.Proofs.YtjndgkbikhndoaaGreatDoor

namespace Go.Proofs.YtjndgkbikhndoaaGreatDoor
open Go.RowKit Go.ChangeShapes Go.WideShapes
set_option linter.unusedVariables false
set_option linter.unusedSimpArgs false

theorem HtsAt.chg {w w' : World} {c : Cf} {v : Value} (h : HtsAt w c v) (hc : Chg [] w w') : HtsAt w' c v := ⟨h.hs.chg hc, h.hn, h.hc⟩
/-- What a right configuration's numbers are. -/
structure Rgt (c : Cf) : Prop where
  h1 : 1 ≤ c.hosts.length
  h2 : c.hosts.length ≤ 16
  r1 : 1 ≤ c.routes.length
  r2 : c.routes.length ≤ 16
  ho : c.hosts.all htOK = true
  nd : (c.hosts.map (fun h => h.name)).Nodup
  ro : c.routes.all (fun r => routeOK r c.hosts.length) = true
  pa : pathOK c = true
  nu : allR c.nums = true
theorem rgt_of {c : Cf} (h : rightB c = true) : Rgt c := by
  unfold rightB at h
  simp only [Bool.and_eq_true, decide_eq_true_eq] at h
  obtain ⟨⟨⟨⟨⟨⟨⟨h1, h2⟩, r1, r2⟩, ho⟩, nd⟩, ro⟩, pa⟩, nu⟩ := h
  exact ⟨h1, h2, r1, r2, ho, nd, ro, pa, nu⟩
theorem Rgt.caps {c : Cf} (h : Rgt c) : ∀ x, x ∈ c.hosts → 1 ≤ x.cap ∧ x.cap ≤ 64 := by
  intro x hx
  have := List.all_eq_true.1 h.ho x hx
  unfold htOK allR inR at this
  simp at this
  omega
theorem Rgt.nums {c : Cf} (h : Rgt c) : (0 ≤ c.every ∧ c.every ≤ 1000000) ∧ (16 ≤ c.maxHead ∧ c.maxHead ≤ 65536) ∧ (0 ≤ c.maxBody ∧ c.maxBody ≤ 1048576) ∧ (1 ≤ c.maxOut ∧ c.maxOut ≤ 1048576) ∧ (1 ≤ c.clients ∧ c.clients ≤ 256) := by
  have := h.nu
  unfold allR Cf.nums inR M6 at this
  simp at this
  omega
theorem Rgt.capsN {c : Cf} (h : Rgt c) : (c.hosts.length : Int) ≤ capsN c ∧ capsN c ≤ 1024 := by
  have := capsK_bd c h.caps c.hosts.length (Nat.le_refl _)
  rw [capsK_all] at this
  have := h.h2
  omega
theorem wrap_in {n : Int} (h0 : -9223372036854775808 ≤ n) (h1 : n ≤ 9223372036854775807) : IntKind.i64.wrap n = n := by
  unfold IntKind.wrap IntKind.bits IntKind.signed
  simp
  omega
def okN (z : Bool) (n : Int) : Int := if z then n else 0
end Go.Proofs.YtjndgkbikhndoaaGreatDoor
