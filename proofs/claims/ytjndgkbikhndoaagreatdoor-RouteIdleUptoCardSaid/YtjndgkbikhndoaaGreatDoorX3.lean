/- Layer 13, the reference: numbers, route. -/
import Derived.Test.YtjndgkbikhndoaaGreatDoorX2
import Derived.Test.YtjndgkbikhndoaaGreatDoorM7
namespace Go.Proofs.YtjndgkbikhndoaaGreatDoor
open Go.RowKit Go.ChangeShapes Go.WideShapes
set_option linter.unusedVariables false

theorem nums_chain (r : Rt) : allR r.nums = (inR r.rate 0 M6 && (inR r.burst 0 M6 && (inR r.per 1 M6 && (inR r.cool 1 M6 && (inR r.window 1 M6 && (inR r.hedgeAfter 1 M6 && (inR r.perTry 1 M6 && (inR r.total 1 M6 && (inR r.opn 1 1000 && (inR r.fails 0 1000 && (inR r.probes 1 100 && (inR r.percent 0 100 && (inR r.min 0 1000 && (inR r.retries 0 5 && inR r.hedges 0 3)))))))))))))) := by
  unfold allR Rt.nums
  simp only [List.all_cons, List.all_nil, Bool.and_true]
  ac_rfl
set_option maxHeartbeats 8000000 in
set_option maxRecDepth 100000 in
theorem rnumbers_any (r : Rt) (mv hv : Value) (w : World) (z : Bool) (hz : allR r.nums = z) :
    Calls Tryz.prog 82 #[.agg (rtRow r mv hv).toArray] w fun e w' => e = .returned (.bool z) ∧ Hid (Chg [] w w') := by
  rw [nums_chain] at hz
  obtain ⟨⟨host, pre, ms, hd, va⟩, hosts, rate, per, burst, opn, fails, cool, probes, percent, mini, window, retries, hedges, hedgeAfter, perTry, total⟩ := r
  have HB0 := Lib.hid (Blk.new w (rtRow ⟨⟨host, pre, ms, hd, va⟩, hosts, rate, per, burst, opn, fails, cool, probes, percent, mini, window, retries, hedges, hedgeAfter, perTry, total⟩ mv hv) 42)
  have HC0 := Lib.hid ((Chg.refl [] w).alloc (.cells (rtRow ⟨⟨host, pre, ms, hd, va⟩, hosts, rate, per, burst, opn, fails, cool, probes, percent, mini, window, retries, hedges, hedgeAfter, perTry, total⟩ mv hv).toArray 42))
  unfold rtRow at HB0 HC0 ⊢
  dsimp only at HB0 HC0 hz ⊢
  obtain ⟨b0, h0⟩ : ∃ b, inR rate 0 M6 = b := ⟨_, rfl⟩
  have H0 := Lib.hid h0
  rw [h0] at hz
  clear h0
  obtain ⟨b1, h1⟩ : ∃ b, inR burst 0 M6 = b := ⟨_, rfl⟩
  have H1 := Lib.hid h1
  rw [h1] at hz
  clear h1
  obtain ⟨b2, h2⟩ : ∃ b, inR per 1 M6 = b := ⟨_, rfl⟩
  have H2 := Lib.hid h2
  rw [h2] at hz
  clear h2
  obtain ⟨b3, h3⟩ : ∃ b, inR cool 1 M6 = b := ⟨_, rfl⟩
  have H3 := Lib.hid h3
  rw [h3] at hz
  clear h3
  obtain ⟨b4, h4⟩ : ∃ b, inR window 1 M6 = b := ⟨_, rfl⟩
  have H4 := Lib.hid h4
  rw [h4] at hz
  clear h4
  obtain ⟨b5, h5⟩ : ∃ b, inR hedgeAfter 1 M6 = b := ⟨_, rfl⟩
  have H5 := Lib.hid h5
  rw [h5] at hz
  clear h5
  obtain ⟨b6, h6⟩ : ∃ b, inR perTry 1 M6 = b := ⟨_, rfl⟩
  have H6 := Lib.hid h6
  rw [h6] at hz
  clear h6
  obtain ⟨b7, h7⟩ : ∃ b, inR total 1 M6 = b := ⟨_, rfl⟩
  have H7 := Lib.hid h7
  rw [h7] at hz
  clear h7
  obtain ⟨b8, h8⟩ : ∃ b, inR opn 1 1000 = b := ⟨_, rfl⟩
  have H8 := Lib.hid h8
  rw [h8] at hz
  clear h8
  obtain ⟨b9, h9⟩ : ∃ b, inR fails 0 1000 = b := ⟨_, rfl⟩
  have H9 := Lib.hid h9
  rw [h9] at hz
  clear h9
  obtain ⟨b10, h10⟩ : ∃ b, inR probes 1 100 = b := ⟨_, rfl⟩
  have H10 := Lib.hid h10
  rw [h10] at hz
  clear h10
  obtain ⟨b11, h11⟩ : ∃ b, inR percent 0 100 = b := ⟨_, rfl⟩
  have H11 := Lib.hid h11
  rw [h11] at hz
  clear h11
  obtain ⟨b12, h12⟩ : ∃ b, inR mini 0 1000 = b := ⟨_, rfl⟩
  have H12 := Lib.hid h12
  rw [h12] at hz
  clear h12
  obtain ⟨b13, h13⟩ : ∃ b, inR retries 0 5 = b := ⟨_, rfl⟩
  have H13 := Lib.hid h13
  rw [h13] at hz
  clear h13
  obtain ⟨b14, h14⟩ : ∃ b, inR hedges 0 3 = b := ⟨_, rfl⟩
  have H14 := Lib.hid h14
  rw [h14] at hz
  clear h14
  have HZ := Lib.hid hz
  clear hz
  go_enter Tryz.func82, Tryz.ntmps82
  go_upto_region 1 with fail
  change Hid (Blk (w.alloc (.cells #[.string host, .string pre, mv, .string hd, .string va, hv, .int .i64 rate, .int .i64 per, .int .i64 burst, .int .i64 opn, .int .i64 fails, .int .i64 cool, .int .i64 probes, .int .i64 percent, .int .i64 mini, .int .i64 window, .int .i64 retries, .int .i64 hedges, .int .i64 hedgeAfter, .int .i64 perTry, .int .i64 total] 42)) _ _ _) at HB0
  change Hid (Chg [] w (w.alloc (.cells #[.string host, .string pre, mv, .string hd, .string va, hv, .int .i64 rate, .int .i64 per, .int .i64 burst, .int .i64 opn, .int .i64 fails, .int .i64 cool, .int .i64 probes, .int .i64 percent, .int .i64 mini, .int .i64 window, .int .i64 retries, .int .i64 hedges, .int .i64 hedgeAfter, .int .i64 perTry, .int .i64 total] 42))) at HC0
  generalize w.alloc (.cells #[.string host, .string pre, mv, .string hd, .string va, hv, .int .i64 rate, .int .i64 per, .int .i64 burst, .int .i64 opn, .int .i64 fails, .int .i64 cool, .int .i64 probes, .int .i64 percent, .int .i64 mini, .int .i64 window, .int .i64 retries, .int .i64 hedges, .int .i64 hedgeAfter, .int .i64 perTry, .int .i64 total] 42) = W1 at HB0 HC0 ⊢
  generalize w.heap.size = b at HB0 ⊢
  have HB := HB0
  have HC := HC0
  clear HB0 HC0
  (have HBb := HB.out;
   have c0 := HBb.cell 0 _ rfl;
   have c1 := HBb.cell 1 _ rfl;
   have c2 := HBb.cell 2 _ rfl;
   have c3 := HBb.cell 3 _ rfl;
   have c4 := HBb.cell 4 _ rfl;
   have c5 := HBb.cell 5 _ rfl;
   have c6 := HBb.cell 6 _ rfl;
   have c7 := HBb.cell 7 _ rfl;
   have c8 := HBb.cell 8 _ rfl;
   have c9 := HBb.cell 9 _ rfl;
   have c10 := HBb.cell 10 _ rfl;
   have c11 := HBb.cell 11 _ rfl;
   have c12 := HBb.cell 12 _ rfl;
   have c13 := HBb.cell 13 _ rfl;
   have c14 := HBb.cell 14 _ rfl;
   have c15 := HBb.cell 15 _ rfl;
   have c16 := HBb.cell 16 _ rfl;
   have c17 := HBb.cell 17 _ rfl;
   have c18 := HBb.cell 18 _ rfl;
   have c19 := HBb.cell 19 _ rfl;
   have c20 := HBb.cell 20 _ rfl;
   clear HBb)
  go_wp2_with fail
  refine (rin_any rate 0 1000000 _ b0 H0.out).mono ?_
  rintro e w' ⟨rfl, rfl⟩
  cases b0
  · have HR := Lib.hid (show z = false from by rw [← HZ.out]; rfl)
    go_wp2
    go_ret
    exact ⟨by rw [HR.out]; rfl, HC.out⟩
  go_wp2_with fail
  refine (rin_any burst 0 1000000 _ b1 H1.out).mono ?_
  rintro e w' ⟨rfl, rfl⟩
  cases b1
  · have HR := Lib.hid (show z = false from by rw [← HZ.out]; rfl)
    go_wp2
    go_ret
    exact ⟨by rw [HR.out]; rfl, HC.out⟩
  go_wp2_with fail
  refine (rspan_any per _ b2 H2.out).mono ?_
  rintro e w' ⟨rfl, rfl⟩
  cases b2
  · have HR := Lib.hid (show z = false from by rw [← HZ.out]; rfl)
    go_wp2
    go_ret
    exact ⟨by rw [HR.out]; rfl, HC.out⟩
  go_wp2_with fail
  refine (rspan_any cool _ b3 H3.out).mono ?_
  rintro e w' ⟨rfl, rfl⟩
  cases b3
  · have HR := Lib.hid (show z = false from by rw [← HZ.out]; rfl)
    go_wp2
    go_ret
    exact ⟨by rw [HR.out]; rfl, HC.out⟩
  go_wp2_with fail
  refine (rspan_any window _ b4 H4.out).mono ?_
  rintro e w' ⟨rfl, rfl⟩
  cases b4
  · have HR := Lib.hid (show z = false from by rw [← HZ.out]; rfl)
    go_wp2
    go_ret
    exact ⟨by rw [HR.out]; rfl, HC.out⟩
  go_wp2_with fail
  refine (rspan_any hedgeAfter _ b5 H5.out).mono ?_
  rintro e w' ⟨rfl, rfl⟩
  cases b5
  · have HR := Lib.hid (show z = false from by rw [← HZ.out]; rfl)
    go_wp2
    go_ret
    exact ⟨by rw [HR.out]; rfl, HC.out⟩
  go_wp2_with fail
  refine (rspan_any perTry _ b6 H6.out).mono ?_
  rintro e w' ⟨rfl, rfl⟩
  cases b6
  · have HR := Lib.hid (show z = false from by rw [← HZ.out]; rfl)
    go_wp2
    go_ret
    exact ⟨by rw [HR.out]; rfl, HC.out⟩
  go_wp2_with fail
  refine (rspan_any total _ b7 H7.out).mono ?_
  rintro e w' ⟨rfl, rfl⟩
  cases b7
  · have HR := Lib.hid (show z = false from by rw [← HZ.out]; rfl)
    go_wp2
    go_ret
    exact ⟨by rw [HR.out]; rfl, HC.out⟩
  go_wp2_with fail
  refine (rin_any opn 1 1000 _ b8 H8.out).mono ?_
  rintro e w' ⟨rfl, rfl⟩
  cases b8
  · have HR := Lib.hid (show z = false from by rw [← HZ.out]; rfl)
    go_wp2
    go_ret
    exact ⟨by rw [HR.out]; rfl, HC.out⟩
  go_wp2_with fail
  refine (rin_any fails 0 1000 _ b9 H9.out).mono ?_
  rintro e w' ⟨rfl, rfl⟩
  cases b9
  · have HR := Lib.hid (show z = false from by rw [← HZ.out]; rfl)
    go_wp2
    go_ret
    exact ⟨by rw [HR.out]; rfl, HC.out⟩
  go_wp2_with fail
  refine (rin_any probes 1 100 _ b10 H10.out).mono ?_
  rintro e w' ⟨rfl, rfl⟩
  cases b10
  · have HR := Lib.hid (show z = false from by rw [← HZ.out]; rfl)
    go_wp2
    go_ret
    exact ⟨by rw [HR.out]; rfl, HC.out⟩
  go_wp2_with fail
  refine (rin_any percent 0 100 _ b11 H11.out).mono ?_
  rintro e w' ⟨rfl, rfl⟩
  cases b11
  · have HR := Lib.hid (show z = false from by rw [← HZ.out]; rfl)
    go_wp2
    go_ret
    exact ⟨by rw [HR.out]; rfl, HC.out⟩
  go_wp2_with fail
  refine (rin_any mini 0 1000 _ b12 H12.out).mono ?_
  rintro e w' ⟨rfl, rfl⟩
  cases b12
  · have HR := Lib.hid (show z = false from by rw [← HZ.out]; rfl)
    go_wp2
    go_ret
    exact ⟨by rw [HR.out]; rfl, HC.out⟩
  go_wp2_with fail
  refine (rin_any retries 0 5 _ b13 H13.out).mono ?_
  rintro e w' ⟨rfl, rfl⟩
  cases b13
  · have HR := Lib.hid (show z = false from by rw [← HZ.out]; rfl)
    go_wp2
    go_ret
    exact ⟨by rw [HR.out]; rfl, HC.out⟩
  go_wp2_with fail
  refine (rin_any hedges 0 3 _ b14 H14.out).mono ?_
  rintro e w' ⟨rfl, rfl⟩
  cases b14
  · have HR := Lib.hid (show z = false from by rw [← HZ.out]; rfl)
    go_wp2
    go_ret
    exact ⟨by rw [HR.out]; rfl, HC.out⟩
  have HR := Lib.hid (show z = true from by rw [← HZ.out]; rfl)
  go_wp2
  go_ret
  exact ⟨by rw [HR.out]; rfl, HC.out⟩
theorem route_chain (r : Rt) (n : Int) : routeOK r n = (matchOK r.m && (allR r.nums && (inR r.hosts.length 1 16 && (r.hosts.all (okH n) && decide r.hosts.Nodup)))) := by
  have h1 : inR r.hosts.length 1 16 = (decide (1 ≤ r.hosts.length) && decide (r.hosts.length ≤ 16)) := by
    unfold inR
    congr 1
    · exact decide_eq_decide.2 (by omega)
    · exact decide_eq_decide.2 (by omega)
  rw [h1]
  show (matchOK r.m && _ && r.hosts.all (okH n) && _ && _) = _
  ac_rfl
theorem not_taken {α : Type} {l : List α} {k : Nat} {x : α} (h : ∀ (j : Nat) y, j < k → l[j]? = some y → y ≠ x) : x ∉ l.take k := by
  intro hm
  obtain ⟨j, hj, e⟩ := List.getElem_of_mem hm
  rw [List.length_take] at hj
  refine h j x (by omega) ?_ rfl
  rw [← e, List.getElem_take, List.getElem?_eq_getElem]
theorem taken {α : Type} {l : List α} {j k : Nat} {x : α} (h : l[j]? = some x) (hj : j < k) : x ∈ l.take k := by
  refine List.mem_of_getElem? (i := j) ?_
  rw [List.getElem?_take, if_pos hj, h]
set_option maxHeartbeats 8000000 in
set_option maxRecDepth 100000 in
theorem rroute_any (r : Rt) (mv hv : Value) (n : Int) (w : World) (hA : Hid (RtAt w r mv hv)) (hsz : Hid (RtSz r)) (z : Bool) (hz : routeOK r n = z) :
    Calls Tryz.prog 56 #[.agg (rtRow r mv hv).toArray, .int .i64 n] w fun e w' => e = .returned (.bool z) ∧ Hid (Chg [] w w') := by
  rw [route_chain] at hz
  have HNUM := Lib.hid (fun W z (hz : allR r.nums = z) => rnumbers_any r mv hv W z hz)
  have HMS := Lib.hid (fun W (hA : Hid (RtAt W r mv hv)) z (hz : matchOK r.m = z) => rmatch_any r.m.host r.m.pre r.m.header r.m.value r.m.methods mv W (Lib.hid hA.out.ms) (Lib.hid hsz.out.m) z hz)
  obtain ⟨⟨host, pre, ms, hd, va⟩, hosts, rate, per, burst, opn, fails, cool, probes, percent, mini, window, retries, hedges, hedgeAfter, perTry, total⟩ := r
  dsimp only at hz HMS
  obtain ⟨zm, hzm⟩ : ∃ zm, matchOK ⟨host, pre, ms, hd, va⟩ = zm := ⟨_, rfl⟩
  obtain ⟨zn, hzn⟩ : ∃ zn, allR (Rt.nums ⟨⟨host, pre, ms, hd, va⟩, hosts, rate, per, burst, opn, fails, cool, probes, percent, mini, window, retries, hedges, hedgeAfter, perTry, total⟩) = zn := ⟨_, rfl⟩
  obtain ⟨zl, hzl⟩ : ∃ zl, inR hosts.length 1 16 = zl := ⟨_, rfl⟩
  rw [hzm, hzn, hzl] at hz
  have HZM := Lib.hid hzm
  have HZN := Lib.hid hzn
  have HZL := Lib.hid hzl
  have HZ := Lib.hid hz
  clear hz hzm hzn hzl
  have HB0 := Lib.hid (Blk.new w (rtRow ⟨⟨host, pre, ms, hd, va⟩, hosts, rate, per, burst, opn, fails, cool, probes, percent, mini, window, retries, hedges, hedgeAfter, perTry, total⟩ mv hv) 42)
  have HC0 := Lib.hid ((Chg.refl [] w).alloc (.cells (rtRow ⟨⟨host, pre, ms, hd, va⟩, hosts, rate, per, burst, opn, fails, cool, probes, percent, mini, window, retries, hedges, hedgeAfter, perTry, total⟩ mv hv).toArray 42))
  have hlen : (intRows hosts).length = hosts.length := by unfold intRows; rw [List.length_map]
  obtain ⟨A, cap, rfl⟩ := hA.out.hs.form
  unfold rtRow at HB0 HC0 HNUM ⊢
  dsimp only at hA HB0 HC0 HNUM ⊢
  rw [hlen] at hA HB0 HC0 HNUM HMS ⊢
  have HLen := Lib.hid hlen
  have hcap := hA.out.hs.cap
  have hmn : hosts.length ≤ 1048576 := hsz.out.hn
  clear hlen
  go_enter Tryz.func56, Tryz.ntmps56
  go_upto_region 1 with fail
  change Hid (Blk (w.alloc (.cells #[.string host, .string pre, mv, .string hd, .string va, .slice A hosts.length cap, .int .i64 rate, .int .i64 per, .int .i64 burst, .int .i64 opn, .int .i64 fails, .int .i64 cool, .int .i64 probes, .int .i64 percent, .int .i64 mini, .int .i64 window, .int .i64 retries, .int .i64 hedges, .int .i64 hedgeAfter, .int .i64 perTry, .int .i64 total] 42)) _ _ _) at HB0
  change Hid (Chg [] w (w.alloc (.cells #[.string host, .string pre, mv, .string hd, .string va, .slice A hosts.length cap, .int .i64 rate, .int .i64 per, .int .i64 burst, .int .i64 opn, .int .i64 fails, .int .i64 cool, .int .i64 probes, .int .i64 percent, .int .i64 mini, .int .i64 window, .int .i64 retries, .int .i64 hedges, .int .i64 hedgeAfter, .int .i64 perTry, .int .i64 total] 42))) at HC0
  generalize w.alloc (.cells #[.string host, .string pre, mv, .string hd, .string va, .slice A hosts.length cap, .int .i64 rate, .int .i64 per, .int .i64 burst, .int .i64 opn, .int .i64 fails, .int .i64 cool, .int .i64 probes, .int .i64 percent, .int .i64 mini, .int .i64 window, .int .i64 retries, .int .i64 hedges, .int .i64 hedgeAfter, .int .i64 perTry, .int .i64 total] 42) = W1 at HB0 HC0 ⊢
  generalize w.heap.size = b at HB0 ⊢
  have HB := HB0
  have HC := HC0
  have HA := Lib.hid (hA.out.chg HC.out)
  clear HB0 HC0 hA
  (have HBb := HB.out;
   have c0 := HBb.cell 0 _ rfl;
   have c1 := HBb.cell 1 _ rfl;
   have c2 := HBb.cell 2 _ rfl;
   have c3 := HBb.cell 3 _ rfl;
   have c4 := HBb.cell 4 _ rfl;
   have c5 := HBb.cell 5 _ rfl;
   have c6 := HBb.cell 6 _ rfl;
   have c7 := HBb.cell 7 _ rfl;
   have c8 := HBb.cell 8 _ rfl;
   have c9 := HBb.cell 9 _ rfl;
   have c10 := HBb.cell 10 _ rfl;
   have c11 := HBb.cell 11 _ rfl;
   have c12 := HBb.cell 12 _ rfl;
   have c13 := HBb.cell 13 _ rfl;
   have c14 := HBb.cell 14 _ rfl;
   have c15 := HBb.cell 15 _ rfl;
   have c16 := HBb.cell 16 _ rfl;
   have c17 := HBb.cell 17 _ rfl;
   have c18 := HBb.cell 18 _ rfl;
   have c19 := HBb.cell 19 _ rfl;
   have c20 := HBb.cell 20 _ rfl;
   clear HBb)
  go_wp2_with fail
  refine (HMS.out _ HA zm HZM.out).mono ?_
  rintro e w2 ⟨rfl, H2⟩
  have HB2 := Lib.hid (HB.out.chg H2.out (by simp))
  have HC2 := Lib.hid (HC.out.trans H2.out (by simp))
  have HA2 := Lib.hid (HA.out.chg H2.out)
  clear c0 c1 c2 c3 c4 c5 c6 c7 c8 c9 c10 c11 c12 c13 c14 c15 c16 c17 c18 c19 c20
  clear HB HC HA
  have HB := HB2
  have HC := HC2
  have HA := HA2
  clear HB2 HC2 HA2
  (have HBb := HB.out;
   have c0 := HBb.cell 0 _ rfl;
   have c1 := HBb.cell 1 _ rfl;
   have c2 := HBb.cell 2 _ rfl;
   have c3 := HBb.cell 3 _ rfl;
   have c4 := HBb.cell 4 _ rfl;
   have c5 := HBb.cell 5 _ rfl;
   have c6 := HBb.cell 6 _ rfl;
   have c7 := HBb.cell 7 _ rfl;
   have c8 := HBb.cell 8 _ rfl;
   have c9 := HBb.cell 9 _ rfl;
   have c10 := HBb.cell 10 _ rfl;
   have c11 := HBb.cell 11 _ rfl;
   have c12 := HBb.cell 12 _ rfl;
   have c13 := HBb.cell 13 _ rfl;
   have c14 := HBb.cell 14 _ rfl;
   have c15 := HBb.cell 15 _ rfl;
   have c16 := HBb.cell 16 _ rfl;
   have c17 := HBb.cell 17 _ rfl;
   have c18 := HBb.cell 18 _ rfl;
   have c19 := HBb.cell 19 _ rfl;
   have c20 := HBb.cell 20 _ rfl;
   clear HBb)
  cases zm
  · have HR := Lib.hid (show z = false from by rw [← HZ.out]; rfl)
    go_wp2
    go_ret
    exact ⟨by rw [HR.out]; rfl, HC.out⟩
  have HLD : Hid ((loadVar 42 ⟨b, 0, none⟩).run Tryz.prog w2 = .ok (.agg #[.string host, .string pre, mv, .string hd, .string va, .slice A hosts.length cap, .int .i64 rate, .int .i64 per, .int .i64 burst, .int .i64 opn, .int .i64 fails, .int .i64 cool, .int .i64 probes, .int .i64 percent, .int .i64 mini, .int .i64 window, .int .i64 retries, .int .i64 hedges, .int .i64 hedgeAfter, .int .i64 perTry, .int .i64 total]) w2) := Lib.hid (load_row 42 _ [.string host, .string pre, mv, .string hd, .string va, .slice A hosts.length cap, .int .i64 rate, .int .i64 per, .int .i64 burst, .int .i64 opn, .int .i64 fails, .int .i64 cool, .int .i64 probes, .int .i64 percent, .int .i64 mini, .int .i64 window, .int .i64 retries, .int .i64 hedges, .int .i64 hedgeAfter, .int .i64 perTry, .int .i64 total] Tryz.underlying42 rfl (by kernel_rfl) (fun j x hj => by rw [Nat.zero_add]; exact HB.out.cell j x hj))
  go_wp2_with (refine wpList_load_want (by rfl) 42 _ rfl ⟨b, 0, none⟩ _ rfl HLD.out ?_)
  refine (HNUM.out _ zn HZN.out).mono ?_
  rintro e w3 ⟨rfl, H3⟩
  have HB2 := Lib.hid (HB.out.chg H3.out (by simp))
  have HC2 := Lib.hid (HC.out.trans H3.out (by simp))
  have HA2 := Lib.hid (HA.out.chg H3.out)
  clear c0 c1 c2 c3 c4 c5 c6 c7 c8 c9 c10 c11 c12 c13 c14 c15 c16 c17 c18 c19 c20
  clear HB HC HA HLD
  have HB := HB2
  have HC := HC2
  have HA := HA2
  clear HB2 HC2 HA2
  have c5 := HB.out.cell 5 _ rfl
  cases zn
  · have HR := Lib.hid (show z = false from by rw [← HZ.out]; rfl)
    go_wp2
    go_ret
    exact ⟨by rw [HR.out]; rfl, HC.out⟩
  go_wp2_with fail
  refine (rin_any hosts.length 1 16 _ zl HZL.out).mono ?_
  rintro e w' ⟨rfl, rfl⟩
  cases zl
  · have HR := Lib.hid (show z = false from by rw [← HZ.out]; rfl)
    go_wp2
    go_ret
    exact ⟨by rw [HR.out]; rfl, HC.out⟩
  have HZ2 := Lib.hid (show (hosts.all (okH n) && decide hosts.Nodup) = z from by rw [← HZ.out]; rfl)
  clear HZ
  go_wp2_with fail
  go_loopw [27] (fun i wr => ∃ k : Nat, i = .int .i64 k ∧ k ≤ hosts.length ∧ Hid (∀ (j : Nat) x, j < k → hosts[j]? = some x → okH n x = true) ∧ Hid ((hosts.take k).Nodup) ∧ wr = w3) (fun i _ => hosts.length - (intOf i).toNat)
  case atStart => exact ⟨0, rfl, by omega, Lib.hid (fun j g hj => by omega), Lib.hid (by simp), rfl⟩
  case round =>
    obtain ⟨k, rfl, hk, HK, HN, rfl⟩ := hrel
    by_cases hlt : k < hosts.length
    · obtain ⟨bh, oh, rfl, hbs, hx⟩ := HA.out.hs.at1 (by rw [HLen.out]; omega)
      obtain ⟨x, hxk⟩ : ∃ x, hosts[k]? = some x := ⟨_, List.getElem?_eq_getElem hlt⟩
      have d1 := hx k _ (by unfold intRows; rw [List.getElem?_map, hxk]; rfl)
      have HX := Lib.hid hxk
      have HXX := Lib.hid hx
      clear hx hxk
      by_cases p1 : x < 0
      · have HR := Lib.hid (show z = false from by rw [← HZ2.out, any_hit (p := okH n) HX.out (by unfold okH; rw [decide_eq_false (show ¬ 0 ≤ x by omega)]; rfl)]; rfl)
        go_wp2
        go_ret
        exact ⟨by rw [HR.out]; rfl, HC.out⟩
      by_cases p2 : n ≤ x
      · have HR := Lib.hid (show z = false from by rw [← HZ2.out, any_hit (p := okH n) HX.out (by unfold okH; rw [decide_eq_false (show ¬ x < n by omega), Bool.and_false])]; rfl)
        go_wp2
        go_ret
        exact ⟨by rw [HR.out]; rfl, HC.out⟩
      have HK2 := Lib.hid (next_good (p := okH n) HK.out HX.out (by unfold okH; rw [decide_eq_true (show 0 ≤ x by omega), decide_eq_true (show x < n by omega)]; rfl))
      go_wp2_with fail
      go_loopw [7] (fun i2 wr2 => ∃ m : Nat, i2 = .int .i64 m ∧ m ≤ k ∧ Hid (∀ (j : Nat) y, j < m → hosts[j]? = some y → y ≠ x) ∧ wr2 = wr) (fun i2 _ => k - (intOf i2).toNat)
      case atStart => exact ⟨0, rfl, by omega, Lib.hid (fun j g hj => by omega), rfl⟩
      case round =>
        obtain ⟨m, rfl, hm, HM, rfl⟩ := hrel
        by_cases hmk : m < k
        · obtain ⟨y, hym⟩ : ∃ y, hosts[m]? = some y := ⟨_, List.getElem?_eq_getElem (by omega)⟩
          have d2 := HXX.out m _ (by unfold intRows; rw [List.getElem?_map, hym]; rfl)
          have HY := Lib.hid hym
          clear hym
          by_cases hxy : y = x
          · have HR := Lib.hid (show z = false from by rw [← HZ2.out, decide_eq_false (nodup_hit HX.out (taken (by rw [HY.out, hxy]) hmk)), Bool.and_false])
            have hq : (y == x) = true := beq_iff_eq.2 hxy
            clear hxy
            go_wp2
            go_ret
            exact ⟨by rw [HR.out]; rfl, HC.out⟩
          · have HM2 := Lib.hid (show ∀ (j : Nat) u, j < m + 1 → hosts[j]? = some u → u ≠ x from fun j u hj hu => by
              rcases Nat.lt_or_ge j m with q | q
              · exact HM.out j u q hu
              · obtain rfl : j = m := by omega
                rw [HY.out] at hu
                injection hu with hu
                rw [← hu]
                exact hxy)
            have hq : (y == x) = false := beq_eq_false_iff_ne.2 hxy
            clear hxy
            go_wp2
            go_roundw
            case rel => exact ⟨m + 1, by go_num, by omega, HM2, by first | rfl | trivial⟩
            case measure => simp [intOf]; omega
        · obtain rfl : m = k := by omega
          have HN2 := Lib.hid (nodup_next HN.out HX.out (not_taken HM.out))
          go_wp2
          go_roundw
          case rel => exact ⟨m + 1, by go_num, by omega, HK2, HN2, by first | rfl | trivial⟩
          case measure => simp [intOf]; omega
    · obtain rfl : k = hosts.length := by omega
      have HR := Lib.hid (show z = true from by
        have h2 := HN.out
        rw [List.take_length] at h2
        rw [← HZ2.out, all_good HK.out, decide_eq_true h2]
        rfl)
      go_wp2
      go_ret
      exact ⟨by rw [HR.out]; rfl, HC.out⟩
end Go.Proofs.YtjndgkbikhndoaaGreatDoor
