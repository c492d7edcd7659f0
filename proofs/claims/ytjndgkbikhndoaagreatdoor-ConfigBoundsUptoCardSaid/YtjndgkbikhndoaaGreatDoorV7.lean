/- Layer 13 (config), the program: route. -/
import Derived.Test.YtjndgkbikhndoaaGreatDoorV6
namespace Go.Proofs.YtjndgkbikhndoaaGreatDoor
open Go.RowKit Go.ChangeShapes Go.WideShapes
set_option linter.unusedVariables false

theorem flat_get {k : Nat} : ∀ (rows : List (List Value)), (∀ r, r ∈ rows → r.length = k) → ∀ (i : Nat) (r : List Value) (j : Nat) (x : Value), rows[i]? = some r → r[j]? = some x → rows.flatten[i * k + j]? = some x
  | [], _, i, r, j, x, h, _ => by simp at h
  | a :: l, hk, 0, r, j, x, h, hj => by
    have e : a = r := by simpa using h
    subst e
    rw [Nat.zero_mul, Nat.zero_add, List.flatten_cons, List.getElem?_append_left (List.getElem?_eq_some_iff.1 hj).1]
    exact hj
  | a :: l, hk, i + 1, r, j, x, h, hj => by
    have ha := hk a List.mem_cons_self
    rw [List.flatten_cons, List.getElem?_append_right (by rw [ha, Nat.succ_mul]; omega), ha]
    have := flat_get l (fun r hr => hk r (List.mem_cons_of_mem _ hr)) i r j x (by simpa using h) hj
    rw [← this]
    congr 1
    rw [Nat.succ_mul]
    omega
theorem Tbl.ofBlk {W : World} {b T k : Nat} {rows : List (List Value)} {vs : List Value} (hb : Blk W b vs T) (hv : vs = rows.flatten) (hk : ∀ r, r ∈ rows → r.length = k) : Tbl W (.slice (some ⟨b, 0, none⟩) rows.length rows.length) k rows :=
  ⟨_, _, rfl, Nat.le_refl _, fun _ => ⟨b, 0, rfl, hb.lt, fun i r hr j x hj => by
    rw [Nat.zero_add]
    exact hb.cell _ _ (by rw [hv]; exact flat_get rows hk i r j x hr hj)⟩⟩
theorem span_len (l : List (Int × Int × Int)) : ∀ r, r ∈ spanRows l → r.length = 3 := by
  intro r hr
  obtain ⟨x, -, rfl⟩ := List.mem_map.1 hr
  rfl
set_option maxHeartbeats 8000000 in
set_option maxRecDepth 100000 in
theorem croute_any (r : Rt) (mv hv : Value) (n : Int) (w : World) (hE : Hid (Env w)) (hA : Hid (RtAt w r mv hv)) (hsz : Hid (RtSz r)) (z : Bool) (hz : routeOK r n = z) :
    Calls Tryz.prog 36 #[.agg (rtRow r mv hv).toArray, .int .i64 n] w fun e w' => e = .returned (.bool z) ∧ Hid (Chg [] w w') := by
  obtain ⟨⟨host, pre, ms, hd, va⟩, hosts, rate, per, burst, opn, fails, cool, probes, percent, mini, window, retries, hedges, hedgeAfter, perTry, total⟩ := r
  have HB0 := Lib.hid (Blk.new w (rtRow ⟨⟨host, pre, ms, hd, va⟩, hosts, rate, per, burst, opn, fails, cool, probes, percent, mini, window, retries, hedges, hedgeAfter, perTry, total⟩ mv hv) 42)
  unfold rtRow at HB0 ⊢
  dsimp only at HB0 ⊢
  have hlen : (intRows hosts).length = hosts.length := by unfold intRows; rw [List.length_map]
  obtain ⟨A, cap, rfl⟩ := hA.out.hs.form
  dsimp only at hA ⊢ HB0
  rw [hlen] at hA HB0 ⊢
  have HLen := Lib.hid hlen
  have hmn : hosts.length ≤ 1048576 := hsz.out.hn
  have HMSZ := Lib.hid hsz.out.m
  have HNUM := Lib.hid (show Rt.nums ⟨⟨host, pre, ms, hd, va⟩, hosts, rate, per, burst, opn, fails, cool, probes, percent, mini, window, retries, hedges, hedgeAfter, perTry, total⟩ = [(rate, 0, M6), (per, 1, M6), (burst, 0, M6), (opn, 1, 1000), (fails, 0, 1000), (cool, 1, M6), (probes, 1, 100), (percent, 0, 100), (mini, 0, 1000), (window, 1, M6), (retries, 0, 5), (hedges, 0, 3), (hedgeAfter, 1, M6), (perTry, 1, M6), (total, 1, M6)] from rfl)
  have hz2 : (matchOK ⟨host, pre, ms, hd, va⟩ && (decide (1 ≤ hosts.length) && decide (hosts.length ≤ 16)) && hosts.all (okH n) && decide hosts.Nodup && allR [(rate, 0, M6), (per, 1, M6), (burst, 0, M6), (opn, 1, 1000), (fails, 0, 1000), (cool, 1, M6), (probes, 1, 100), (percent, 0, 100), (mini, 0, 1000), (window, 1, M6), (retries, 0, 5), (hedges, 0, 3), (hedgeAfter, 1, M6), (perTry, 1, M6), (total, 1, M6)]) = z := hz
  have HZ := Lib.hid hz2
  clear hz hz2 hlen HNUM
  have HN0 := Lib.hid (Blk.new (w.alloc (.cells #[.string host, .string pre, mv, .string hd, .string va, .slice A hosts.length cap, .int .i64 rate, .int .i64 per, .int .i64 burst, .int .i64 opn, .int .i64 fails, .int .i64 cool, .int .i64 probes, .int .i64 percent, .int .i64 mini, .int .i64 window, .int .i64 retries, .int .i64 hedges, .int .i64 hedgeAfter, .int .i64 perTry, .int .i64 total] 42)) [.int .i64 n] 3)
  rw [show (w.alloc (.cells #[.string host, .string pre, mv, .string hd, .string va, .slice A hosts.length cap, .int .i64 rate, .int .i64 per, .int .i64 burst, .int .i64 opn, .int .i64 fails, .int .i64 cool, .int .i64 probes, .int .i64 percent, .int .i64 mini, .int .i64 window, .int .i64 retries, .int .i64 hedges, .int .i64 hedgeAfter, .int .i64 perTry, .int .i64 total] 42)).heap.size = w.heap.size + 1 by simp] at HN0
  have HC0 := Lib.hid (((Chg.refl [] w).alloc (.cells #[.string host, .string pre, mv, .string hd, .string va, .slice A hosts.length cap, .int .i64 rate, .int .i64 per, .int .i64 burst, .int .i64 opn, .int .i64 fails, .int .i64 cool, .int .i64 probes, .int .i64 percent, .int .i64 mini, .int .i64 window, .int .i64 retries, .int .i64 hedges, .int .i64 hedgeAfter, .int .i64 perTry, .int .i64 total] 42)).alloc (.cells #[.int .i64 n] 3))
  have HB1 := Lib.hid (HB0.out.alloc (.cells #[.int .i64 n] 3))
  go_enter Tryz.func36, Tryz.ntmps36
  go_upto_region 2 with fail
  change Hid (Blk ((w.alloc (.cells #[.string host, .string pre, mv, .string hd, .string va, .slice A hosts.length cap, .int .i64 rate, .int .i64 per, .int .i64 burst, .int .i64 opn, .int .i64 fails, .int .i64 cool, .int .i64 probes, .int .i64 percent, .int .i64 mini, .int .i64 window, .int .i64 retries, .int .i64 hedges, .int .i64 hedgeAfter, .int .i64 perTry, .int .i64 total] 42)).alloc (.cells #[.int .i64 n] 3)) _ _ _) at HB1
  change Hid (Blk ((w.alloc (.cells #[.string host, .string pre, mv, .string hd, .string va, .slice A hosts.length cap, .int .i64 rate, .int .i64 per, .int .i64 burst, .int .i64 opn, .int .i64 fails, .int .i64 cool, .int .i64 probes, .int .i64 percent, .int .i64 mini, .int .i64 window, .int .i64 retries, .int .i64 hedges, .int .i64 hedgeAfter, .int .i64 perTry, .int .i64 total] 42)).alloc (.cells #[.int .i64 n] 3)) _ _ _) at HN0
  generalize ((w.alloc (.cells #[.string host, .string pre, mv, .string hd, .string va, .slice A hosts.length cap, .int .i64 rate, .int .i64 per, .int .i64 burst, .int .i64 opn, .int .i64 fails, .int .i64 cool, .int .i64 probes, .int .i64 percent, .int .i64 mini, .int .i64 window, .int .i64 retries, .int .i64 hedges, .int .i64 hedgeAfter, .int .i64 perTry, .int .i64 total] 42)).alloc (.cells #[.int .i64 n] 3)) = W1 at HB1 HN0 HC0 ⊢
  generalize w.heap.size + 1 = bn at HN0 ⊢
  generalize w.heap.size = b at HB1 ⊢
  have HB := HB1
  have HN := HN0
  have HC := HC0
  have HA := Lib.hid (hA.out.chg HC.out)
  have HM0 := Lib.hid (fun W (hE : Hid (Env W)) (hA : Hid (RtAt W ⟨⟨host, pre, ms, hd, va⟩, hosts, rate, per, burst, opn, fails, cool, probes, percent, mini, window, retries, hedges, hedgeAfter, perTry, total⟩ mv (.slice A hosts.length cap))) => cmatch_any host pre hd va ms mv W hE (Lib.hid hA.out.ms) HMSZ _ rfl)
  clear HB0 HB1 HN0 HC0 hA hsz
  (have HBb := HB.out;
   have c0 := HBb.cell 0 _ rfl;
   have c1 := HBb.cell 1 _ rfl;
   have c2 := HBb.cell 2 _ rfl;
   have c3 := HBb.cell 3 _ rfl;
   have c4 := HBb.cell 4 _ rfl;
   have c5 := HBb.cell 5 _ rfl;
   have c6 := HBb.cell 6 _ rfl;
   have c7 := HBb.cell 7 _ rfl;
   have c8 := HBb.cell 8 _ rfl;
   have c9 := HBb.cell 9 _ rfl;
   have c10 := HBb.cell 10 _ rfl;
   have c11 := HBb.cell 11 _ rfl;
   have c12 := HBb.cell 12 _ rfl;
   have c13 := HBb.cell 13 _ rfl;
   have c14 := HBb.cell 14 _ rfl;
   have c15 := HBb.cell 15 _ rfl;
   have c16 := HBb.cell 16 _ rfl;
   have c17 := HBb.cell 17 _ rfl;
   have c18 := HBb.cell 18 _ rfl;
   have c19 := HBb.cell 19 _ rfl;
   have c20 := HBb.cell 20 _ rfl;
   clear HBb)
  have hz := HZ.out
  generalize matchOK ⟨host, pre, ms, hd, va⟩ = zm at hz HM0
  clear HZ
  cases zm
  · have HR := Lib.hid (show z = false from hz.symm)
    clear hz
    go_wp2_with fail
    refine (HM0.out _ (Lib.hid (hE.out.chg HC.out)) HA).mono ?_
    rintro e w2 ⟨rfl, H2⟩
    have HB2 := Lib.hid (HB.out.chg H2.out (by simp))
    have HC2 := Lib.hid (HC.out.trans H2.out (by simp))
    have HA2 := Lib.hid (HA.out.chg H2.out)
    have HN2 := Lib.hid (HN.out.chg H2.out (by simp))
    clear c0 c1 c2 c3 c4 c5 c6 c7 c8 c9 c10 c11 c12 c13 c14 c15 c16 c17 c18 c19 c20
    clear HB HC HA HN
    have HB := HB2
    have HC := HC2
    have HA := HA2
    have HN := HN2
    clear HB2 HC2 HA2 HN2
    (have HBb := HB.out;
     have c0 := HBb.cell 0 _ rfl;
     have c1 := HBb.cell 1 _ rfl;
     have c2 := HBb.cell 2 _ rfl;
     have c3 := HBb.cell 3 _ rfl;
     have c4 := HBb.cell 4 _ rfl;
     have c5 := HBb.cell 5 _ rfl;
     have c6 := HBb.cell 6 _ rfl;
     have c7 := HBb.cell 7 _ rfl;
     have c8 := HBb.cell 8 _ rfl;
     have c9 := HBb.cell 9 _ rfl;
     have c10 := HBb.cell 10 _ rfl;
     have c11 := HBb.cell 11 _ rfl;
     have c12 := HBb.cell 12 _ rfl;
     have c13 := HBb.cell 13 _ rfl;
     have c14 := HBb.cell 14 _ rfl;
     have c15 := HBb.cell 15 _ rfl;
     have c16 := HBb.cell 16 _ rfl;
     have c17 := HBb.cell 17 _ rfl;
     have c18 := HBb.cell 18 _ rfl;
     have c19 := HBb.cell 19 _ rfl;
     have c20 := HBb.cell 20 _ rfl;
     clear HBb)
    go_wp2
    go_ret
    exact ⟨by rw [HR.out]; rfl, HC.out⟩
  · rw [Bool.true_and] at hz
    by_cases h1 : 1 ≤ hosts.length
    · have h1i : ¬ (hosts.length : Int) < 1 := by omega
      by_cases h2 : hosts.length ≤ 16
      · have h2i : ¬ (16 : Int) < (hosts.length : Int) := by omega
        rw [decide_eq_true h1, decide_eq_true h2, Bool.true_and, Bool.true_and] at hz
        have HCI := Lib.hid (fun W (hA : Hid (RtAt W ⟨⟨host, pre, ms, hd, va⟩, hosts, rate, per, burst, opn, fails, cool, probes, percent, mini, window, retries, hedges, hedgeAfter, perTry, total⟩ mv (.slice A hosts.length cap))) (hb : Hid (Blk W bn [.int .i64 n] 3)) => containsI_any _ hosts n bn W (Lib.hid hA.out.hs) hmn hb)
        generalize hosts.all (okH n) = za at hz HCI
        cases za
        · have HR := Lib.hid (show z = false from hz.symm)
          clear hz
          go_wp2_with fail
          refine (HM0.out _ (Lib.hid (hE.out.chg HC.out)) HA).mono ?_
          rintro e w2 ⟨rfl, H2⟩
          have HB2 := Lib.hid (HB.out.chg H2.out (by simp))
          have HC2 := Lib.hid (HC.out.trans H2.out (by simp))
          have HA2 := Lib.hid (HA.out.chg H2.out)
          have HN2 := Lib.hid (HN.out.chg H2.out (by simp))
          clear c0 c1 c2 c3 c4 c5 c6 c7 c8 c9 c10 c11 c12 c13 c14 c15 c16 c17 c18 c19 c20
          clear HB HC HA HN
          have HB := HB2
          have HC := HC2
          have HA := HA2
          have HN := HN2
          clear HB2 HC2 HA2 HN2
          (have HBb := HB.out;
           have c0 := HBb.cell 0 _ rfl;
           have c1 := HBb.cell 1 _ rfl;
           have c2 := HBb.cell 2 _ rfl;
           have c3 := HBb.cell 3 _ rfl;
           have c4 := HBb.cell 4 _ rfl;
           have c5 := HBb.cell 5 _ rfl;
           have c6 := HBb.cell 6 _ rfl;
           have c7 := HBb.cell 7 _ rfl;
           have c8 := HBb.cell 8 _ rfl;
           have c9 := HBb.cell 9 _ rfl;
           have c10 := HBb.cell 10 _ rfl;
           have c11 := HBb.cell 11 _ rfl;
           have c12 := HBb.cell 12 _ rfl;
           have c13 := HBb.cell 13 _ rfl;
           have c14 := HBb.cell 14 _ rfl;
           have c15 := HBb.cell 15 _ rfl;
           have c16 := HBb.cell 16 _ rfl;
           have c17 := HBb.cell 17 _ rfl;
           have c18 := HBb.cell 18 _ rfl;
           have c19 := HBb.cell 19 _ rfl;
           have c20 := HBb.cell 20 _ rfl;
           clear HBb)
          go_wp2_with fail
          refine (HCI.out _ HA HN).mono ?_
          rintro e w2 ⟨rfl, H2⟩
          have HB2 := Lib.hid (HB.out.chg H2.out (by simp))
          have HC2 := Lib.hid (HC.out.trans H2.out (by simp))
          have HA2 := Lib.hid (HA.out.chg H2.out)
          have HN2 := Lib.hid (HN.out.chg H2.out (by simp))
          clear c0 c1 c2 c3 c4 c5 c6 c7 c8 c9 c10 c11 c12 c13 c14 c15 c16 c17 c18 c19 c20
          clear HB HC HA HN
          have HB := HB2
          have HC := HC2
          have HA := HA2
          have HN := HN2
          clear HB2 HC2 HA2 HN2
          (have HBb := HB.out;
           have c0 := HBb.cell 0 _ rfl;
           have c1 := HBb.cell 1 _ rfl;
           have c2 := HBb.cell 2 _ rfl;
           have c3 := HBb.cell 3 _ rfl;
           have c4 := HBb.cell 4 _ rfl;
           have c5 := HBb.cell 5 _ rfl;
           have c6 := HBb.cell 6 _ rfl;
           have c7 := HBb.cell 7 _ rfl;
           have c8 := HBb.cell 8 _ rfl;
           have c9 := HBb.cell 9 _ rfl;
           have c10 := HBb.cell 10 _ rfl;
           have c11 := HBb.cell 11 _ rfl;
           have c12 := HBb.cell 12 _ rfl;
           have c13 := HBb.cell 13 _ rfl;
           have c14 := HBb.cell 14 _ rfl;
           have c15 := HBb.cell 15 _ rfl;
           have c16 := HBb.cell 16 _ rfl;
           have c17 := HBb.cell 17 _ rfl;
           have c18 := HBb.cell 18 _ rfl;
           have c19 := HBb.cell 19 _ rfl;
           have c20 := HBb.cell 20 _ rfl;
           clear HBb)
          go_wp2
          go_ret
          exact ⟨by rw [HR.out]; rfl, HC.out⟩
        · rw [Bool.true_and] at hz
          have HTW := Lib.hid (fun W (hA : Hid (RtAt W ⟨⟨host, pre, ms, hd, va⟩, hosts, rate, per, burst, opn, fails, cool, probes, percent, mini, window, retries, hedges, hedgeAfter, perTry, total⟩ mv (.slice A hosts.length cap))) => twiceI_any _ hosts W (Lib.hid hA.out.hs) hmn)
          generalize decide hosts.Nodup = zn at hz HTW
          cases zn
          · have HR := Lib.hid (show z = false from hz.symm)
            clear hz
            go_wp2_with fail
            refine (HM0.out _ (Lib.hid (hE.out.chg HC.out)) HA).mono ?_
            rintro e w2 ⟨rfl, H2⟩
            have HB2 := Lib.hid (HB.out.chg H2.out (by simp))
            have HC2 := Lib.hid (HC.out.trans H2.out (by simp))
            have HA2 := Lib.hid (HA.out.chg H2.out)
            have HN2 := Lib.hid (HN.out.chg H2.out (by simp))
            clear c0 c1 c2 c3 c4 c5 c6 c7 c8 c9 c10 c11 c12 c13 c14 c15 c16 c17 c18 c19 c20
            clear HB HC HA HN
            have HB := HB2
            have HC := HC2
            have HA := HA2
            have HN := HN2
            clear HB2 HC2 HA2 HN2
            (have HBb := HB.out;
             have c0 := HBb.cell 0 _ rfl;
             have c1 := HBb.cell 1 _ rfl;
             have c2 := HBb.cell 2 _ rfl;
             have c3 := HBb.cell 3 _ rfl;
             have c4 := HBb.cell 4 _ rfl;
             have c5 := HBb.cell 5 _ rfl;
             have c6 := HBb.cell 6 _ rfl;
             have c7 := HBb.cell 7 _ rfl;
             have c8 := HBb.cell 8 _ rfl;
             have c9 := HBb.cell 9 _ rfl;
             have c10 := HBb.cell 10 _ rfl;
             have c11 := HBb.cell 11 _ rfl;
             have c12 := HBb.cell 12 _ rfl;
             have c13 := HBb.cell 13 _ rfl;
             have c14 := HBb.cell 14 _ rfl;
             have c15 := HBb.cell 15 _ rfl;
             have c16 := HBb.cell 16 _ rfl;
             have c17 := HBb.cell 17 _ rfl;
             have c18 := HBb.cell 18 _ rfl;
             have c19 := HBb.cell 19 _ rfl;
             have c20 := HBb.cell 20 _ rfl;
             clear HBb)
            go_wp2_with fail
            refine (HCI.out _ HA HN).mono ?_
            rintro e w2 ⟨rfl, H2⟩
            have HB2 := Lib.hid (HB.out.chg H2.out (by simp))
            have HC2 := Lib.hid (HC.out.trans H2.out (by simp))
            have HA2 := Lib.hid (HA.out.chg H2.out)
            have HN2 := Lib.hid (HN.out.chg H2.out (by simp))
            clear c0 c1 c2 c3 c4 c5 c6 c7 c8 c9 c10 c11 c12 c13 c14 c15 c16 c17 c18 c19 c20
            clear HB HC HA HN
            have HB := HB2
            have HC := HC2
            have HA := HA2
            have HN := HN2
            clear HB2 HC2 HA2 HN2
            (have HBb := HB.out;
             have c0 := HBb.cell 0 _ rfl;
             have c1 := HBb.cell 1 _ rfl;
             have c2 := HBb.cell 2 _ rfl;
             have c3 := HBb.cell 3 _ rfl;
             have c4 := HBb.cell 4 _ rfl;
             have c5 := HBb.cell 5 _ rfl;
             have c6 := HBb.cell 6 _ rfl;
             have c7 := HBb.cell 7 _ rfl;
             have c8 := HBb.cell 8 _ rfl;
             have c9 := HBb.cell 9 _ rfl;
             have c10 := HBb.cell 10 _ rfl;
             have c11 := HBb.cell 11 _ rfl;
             have c12 := HBb.cell 12 _ rfl;
             have c13 := HBb.cell 13 _ rfl;
             have c14 := HBb.cell 14 _ rfl;
             have c15 := HBb.cell 15 _ rfl;
             have c16 := HBb.cell 16 _ rfl;
             have c17 := HBb.cell 17 _ rfl;
             have c18 := HBb.cell 18 _ rfl;
             have c19 := HBb.cell 19 _ rfl;
             have c20 := HBb.cell 20 _ rfl;
             clear HBb)
            go_wp2_with fail
            refine (HTW.out _ HA).mono ?_
            rintro e w2 ⟨rfl, rfl⟩
            go_wp2
            go_ret
            exact ⟨by rw [HR.out]; rfl, HC.out⟩
          · rw [Bool.true_and] at hz
            have HR := Lib.hid hz
            clear hz
            go_wp2_with fail
            refine (HM0.out _ (Lib.hid (hE.out.chg HC.out)) HA).mono ?_
            rintro e w2 ⟨rfl, H2⟩
            have HB2 := Lib.hid (HB.out.chg H2.out (by simp))
            have HC2 := Lib.hid (HC.out.trans H2.out (by simp))
            have HA2 := Lib.hid (HA.out.chg H2.out)
            have HN2 := Lib.hid (HN.out.chg H2.out (by simp))
            clear c0 c1 c2 c3 c4 c5 c6 c7 c8 c9 c10 c11 c12 c13 c14 c15 c16 c17 c18 c19 c20
            clear HB HC HA HN
            have HB := HB2
            have HC := HC2
            have HA := HA2
            have HN := HN2
            clear HB2 HC2 HA2 HN2
            (have HBb := HB.out;
             have c0 := HBb.cell 0 _ rfl;
             have c1 := HBb.cell 1 _ rfl;
             have c2 := HBb.cell 2 _ rfl;
             have c3 := HBb.cell 3 _ rfl;
             have c4 := HBb.cell 4 _ rfl;
             have c5 := HBb.cell 5 _ rfl;
             have c6 := HBb.cell 6 _ rfl;
             have c7 := HBb.cell 7 _ rfl;
             have c8 := HBb.cell 8 _ rfl;
             have c9 := HBb.cell 9 _ rfl;
             have c10 := HBb.cell 10 _ rfl;
             have c11 := HBb.cell 11 _ rfl;
             have c12 := HBb.cell 12 _ rfl;
             have c13 := HBb.cell 13 _ rfl;
             have c14 := HBb.cell 14 _ rfl;
             have c15 := HBb.cell 15 _ rfl;
             have c16 := HBb.cell 16 _ rfl;
             have c17 := HBb.cell 17 _ rfl;
             have c18 := HBb.cell 18 _ rfl;
             have c19 := HBb.cell 19 _ rfl;
             have c20 := HBb.cell 20 _ rfl;
             clear HBb)
            go_wp2_with fail
            refine (HCI.out _ HA HN).mono ?_
            rintro e w2 ⟨rfl, H2⟩
            have HB2 := Lib.hid (HB.out.chg H2.out (by simp))
            have HC2 := Lib.hid (HC.out.trans H2.out (by simp))
            have HA2 := Lib.hid (HA.out.chg H2.out)
            have HN2 := Lib.hid (HN.out.chg H2.out (by simp))
            clear c0 c1 c2 c3 c4 c5 c6 c7 c8 c9 c10 c11 c12 c13 c14 c15 c16 c17 c18 c19 c20
            clear HB HC HA HN
            have HB := HB2
            have HC := HC2
            have HA := HA2
            have HN := HN2
            clear HB2 HC2 HA2 HN2
            (have HBb := HB.out;
             have c0 := HBb.cell 0 _ rfl;
             have c1 := HBb.cell 1 _ rfl;
             have c2 := HBb.cell 2 _ rfl;
             have c3 := HBb.cell 3 _ rfl;
             have c4 := HBb.cell 4 _ rfl;
             have c5 := HBb.cell 5 _ rfl;
             have c6 := HBb.cell 6 _ rfl;
             have c7 := HBb.cell 7 _ rfl;
             have c8 := HBb.cell 8 _ rfl;
             have c9 := HBb.cell 9 _ rfl;
             have c10 := HBb.cell 10 _ rfl;
             have c11 := HBb.cell 11 _ rfl;
             have c12 := HBb.cell 12 _ rfl;
             have c13 := HBb.cell 13 _ rfl;
             have c14 := HBb.cell 14 _ rfl;
             have c15 := HBb.cell 15 _ rfl;
             have c16 := HBb.cell 16 _ rfl;
             have c17 := HBb.cell 17 _ rfl;
             have c18 := HBb.cell 18 _ rfl;
             have c19 := HBb.cell 19 _ rfl;
             have c20 := HBb.cell 20 _ rfl;
             clear HBb)
            go_wp2_with fail
            refine (HTW.out _ HA).mono ?_
            rintro e w2 ⟨rfl, rfl⟩
            go_wp2_with fail
            have HT := Lib.hid (Tbl.ofBlk (rows := spanRows [(rate, 0, M6), (per, 1, M6), (burst, 0, M6), (opn, 1, 1000), (fails, 0, 1000), (cool, 1, M6), (probes, 1, 100), (percent, 0, 100), (mini, 0, 1000), (window, 1, M6), (retries, 0, 5), (hedges, 0, 3), (hedgeAfter, 1, M6), (perTry, 1, M6), (total, 1, M6)]) (Blk.new w2 (spanRows [(rate, 0, M6), (per, 1, M6), (burst, 0, M6), (opn, 1, 1000), (fails, 0, 1000), (cool, 1, M6), (probes, 1, 100), (percent, 0, 100), (mini, 0, 1000), (window, 1, M6), (retries, 0, 5), (hedges, 0, 3), (hedgeAfter, 1, M6), (perTry, 1, M6), (total, 1, M6)]).flatten 66) rfl (span_len _))
            have HC9 := Lib.hid (HC.out.alloc (.cells (spanRows [(rate, 0, M6), (per, 1, M6), (burst, 0, M6), (opn, 1, 1000), (fails, 0, 1000), (cool, 1, M6), (probes, 1, 100), (percent, 0, 100), (mini, 0, 1000), (window, 1, M6), (retries, 0, 5), (hedges, 0, 3), (hedgeAfter, 1, M6), (perTry, 1, M6), (total, 1, M6)]).flatten.toArray 66))
            refine (within_any (.slice (some ⟨w2.heap.size, 0, none⟩) 15 15) [(rate, 0, M6), (per, 1, M6), (burst, 0, M6), (opn, 1, 1000), (fails, 0, 1000), (cool, 1, M6), (probes, 1, 100), (percent, 0, 100), (mini, 0, 1000), (window, 1, M6), (retries, 0, 5), (hedges, 0, 3), (hedgeAfter, 1, M6), (perTry, 1, M6), (total, 1, M6)] _ HT (by show 15 ≤ 1000; omega)).mono ?_
            rintro e w3 ⟨rfl, H3⟩
            go_wp2
            go_ret
            exact ⟨by rw [← HR.out]; rfl, HC9.out.trans H3.out (by simp)⟩
      · have h2i : (16 : Int) < (hosts.length : Int) := by omega
        rw [decide_eq_false h2, Bool.and_false] at hz
        have HR := Lib.hid (show z = false from hz.symm)
        clear hz
        go_wp2_with fail
        refine (HM0.out _ (Lib.hid (hE.out.chg HC.out)) HA).mono ?_
        rintro e w2 ⟨rfl, H2⟩
        have HB2 := Lib.hid (HB.out.chg H2.out (by simp))
        have HC2 := Lib.hid (HC.out.trans H2.out (by simp))
        have HA2 := Lib.hid (HA.out.chg H2.out)
        have HN2 := Lib.hid (HN.out.chg H2.out (by simp))
        clear c0 c1 c2 c3 c4 c5 c6 c7 c8 c9 c10 c11 c12 c13 c14 c15 c16 c17 c18 c19 c20
        clear HB HC HA HN
        have HB := HB2
        have HC := HC2
        have HA := HA2
        have HN := HN2
        clear HB2 HC2 HA2 HN2
        (have HBb := HB.out;
         have c0 := HBb.cell 0 _ rfl;
         have c1 := HBb.cell 1 _ rfl;
         have c2 := HBb.cell 2 _ rfl;
         have c3 := HBb.cell 3 _ rfl;
         have c4 := HBb.cell 4 _ rfl;
         have c5 := HBb.cell 5 _ rfl;
         have c6 := HBb.cell 6 _ rfl;
         have c7 := HBb.cell 7 _ rfl;
         have c8 := HBb.cell 8 _ rfl;
         have c9 := HBb.cell 9 _ rfl;
         have c10 := HBb.cell 10 _ rfl;
         have c11 := HBb.cell 11 _ rfl;
         have c12 := HBb.cell 12 _ rfl;
         have c13 := HBb.cell 13 _ rfl;
         have c14 := HBb.cell 14 _ rfl;
         have c15 := HBb.cell 15 _ rfl;
         have c16 := HBb.cell 16 _ rfl;
         have c17 := HBb.cell 17 _ rfl;
         have c18 := HBb.cell 18 _ rfl;
         have c19 := HBb.cell 19 _ rfl;
         have c20 := HBb.cell 20 _ rfl;
         clear HBb)
        go_wp2
        go_ret
        exact ⟨by rw [HR.out]; rfl, HC.out⟩
    · have h1i : (hosts.length : Int) < 1 := by omega
      rw [decide_eq_false h1] at hz
      have HR := Lib.hid (show z = false from hz.symm)
      clear hz
      go_wp2_with fail
      refine (HM0.out _ (Lib.hid (hE.out.chg HC.out)) HA).mono ?_
      rintro e w2 ⟨rfl, H2⟩
      have HB2 := Lib.hid (HB.out.chg H2.out (by simp))
      have HC2 := Lib.hid (HC.out.trans H2.out (by simp))
      have HA2 := Lib.hid (HA.out.chg H2.out)
      have HN2 := Lib.hid (HN.out.chg H2.out (by simp))
      clear c0 c1 c2 c3 c4 c5 c6 c7 c8 c9 c10 c11 c12 c13 c14 c15 c16 c17 c18 c19 c20
      clear HB HC HA HN
      have HB := HB2
      have HC := HC2
      have HA := HA2
      have HN := HN2
      clear HB2 HC2 HA2 HN2
      (have HBb := HB.out;
       have c0 := HBb.cell 0 _ rfl;
       have c1 := HBb.cell 1 _ rfl;
       have c2 := HBb.cell 2 _ rfl;
       have c3 := HBb.cell 3 _ rfl;
       have c4 := HBb.cell 4 _ rfl;
       have c5 := HBb.cell 5 _ rfl;
       have c6 := HBb.cell 6 _ rfl;
       have c7 := HBb.cell 7 _ rfl;
       have c8 := HBb.cell 8 _ rfl;
       have c9 := HBb.cell 9 _ rfl;
       have c10 := HBb.cell 10 _ rfl;
       have c11 := HBb.cell 11 _ rfl;
       have c12 := HBb.cell 12 _ rfl;
       have c13 := HBb.cell 13 _ rfl;
       have c14 := HBb.cell 14 _ rfl;
       have c15 := HBb.cell 15 _ rfl;
       have c16 := HBb.cell 16 _ rfl;
       have c17 := HBb.cell 17 _ rfl;
       have c18 := HBb.cell 18 _ rfl;
       have c19 := HBb.cell 19 _ rfl;
       have c20 := HBb.cell 20 _ rfl;
       clear HBb)
      go_wp2
      go_ret
      exact ⟨by rw [HR.out]; rfl, HC.out⟩
end Go.Proofs.YtjndgkbikhndoaaGreatDoor
