/- Layer 14, the reference: whether a match takes a request. -/
import Derived.Test.YtjndgkbikhndoaaGreatDoorY5
namespace Go.Proofs.YtjndgkbikhndoaaGreatDoor
open Go.RowKit Go.ChangeShapes Go.WideShapes
set_option linter.unusedVariables false

theorem contS_succ {ms : List ByteArray} {k : Nat} {x me : ByteArray} (h : ms[k]? = some x) : Lib.containsS (ms.take (k + 1)) me = (Lib.containsS (ms.take k) me || decide (x = me)) := by
  rw [Bool.eq_iff_iff, Bool.or_eq_true, Lib.containsS_iff, Lib.containsS_iff, decide_eq_true_eq, List.take_add_one, h, List.mem_append]
  simp
  constructor
  · rintro (h | h)
    · exact .inl h
    · exact .inr h.symm
  · rintro (h | h)
    · exact .inl h
    · exact .inr h.symm
theorem contS_nil (me : ByteArray) : Lib.containsS [] me = false := by
  rw [Bool.eq_false_iff]
  intro h
  rw [Lib.containsS_iff] at h
  cases h
set_option maxHeartbeats 8000000 in
set_option maxRecDepth 100000 in
theorem rtakesM_any (m : Mt) (h : Hd) (mv fv : Value) (ho pa : ByteArray) (w : World) (hms : Hid (Tbl w mv 1 (strRows m.methods))) (hfs : Hid (Flds w fv h.fields)) (hsz : Hid (MtSz m)) (hhz : Hid (HdSz h)) (hos : ho.size ≤ 1048576) (pas : pa.size ≤ 1048576) (z : Bool) (hz : takesB m h ho pa = z) :
    Calls Tryz.prog 12 #[.agg (maRow m mv).toArray, .agg (hdRow h fv).toArray, .string ho, .string pa] w fun e w' => e = .returned (.bool z) ∧ Hid (Chg [] w w') := by
  obtain ⟨host, pre, ms, hd, va⟩ := m
  obtain ⟨rq, me, tg, mi, st, re, fs⟩ := h
  have hlen : (strRows ms).length = ms.length := by unfold strRows; rw [List.length_map]
  obtain ⟨A, cap, rfl⟩ := hms.out.form
  dsimp only at hms hfs ⊢
  rw [hlen] at hms ⊢
  have HLen := Lib.hid hlen
  have hcap := hms.out.cap
  have hhs : host.size ≤ 1048576 := hsz.out.host
  have hps : pre.size ≤ 1048576 := hsz.out.pre
  have hds : hd.size ≤ 1048576 := hsz.out.header
  have hmn : ms.length ≤ 1048576 := hsz.out.mn
  have HFB := Lib.hid hhz.out.fs
  dsimp only at HFB
  clear hlen
  have HB0 := Lib.hid (Blk.new w (maRow ⟨host, pre, ms, hd, va⟩ (.slice A ms.length cap)) 24)
  have HB1 := Lib.hid (HB0.out.alloc (.cells (hdRow ⟨rq, me, tg, mi, st, re, fs⟩ fv).toArray 27))
  have HG1 := Lib.hid (Blk.new (w.alloc (.cells (maRow ⟨host, pre, ms, hd, va⟩ (.slice A ms.length cap)).toArray 24)) (hdRow ⟨rq, me, tg, mi, st, re, fs⟩ fv) 27)
  rw [show (w.alloc (.cells (maRow ⟨host, pre, ms, hd, va⟩ (.slice A ms.length cap)).toArray 24)).heap.size = w.heap.size + 1 by simp] at HG1
  have HC0 := Lib.hid (((Chg.refl [] w).alloc (.cells (maRow ⟨host, pre, ms, hd, va⟩ (.slice A ms.length cap)).toArray 24)).alloc (.cells (hdRow ⟨rq, me, tg, mi, st, re, fs⟩ fv).toArray 27))
  obtain ⟨q1, h1⟩ : ∃ q, hostedB host ho = q := ⟨_, rfl⟩
  obtain ⟨q2, h2⟩ : ∃ q, covB pre pa = q := ⟨_, rfl⟩
  obtain ⟨q4, h4⟩ : ∃ q, askB ⟨host, pre, ms, hd, va⟩ ⟨rq, me, tg, mi, st, re, fs⟩ = q := ⟨_, rfl⟩
  have hz2 : (q1 && (q2 && ((decide (ms.length = 0) || Lib.containsS ms me) && q4))) = z := by rw [← h1, ← h2, ← h4]; exact hz
  have H1 := Lib.hid h1
  have H2Q := Lib.hid h2
  have H4 := Lib.hid (show (decide (hd.size = 0) || (gotB fs hd && decide (getB fs hd = va))) = q4 from h4)
  have HZ := Lib.hid hz2
  clear hz hz2 h1 h2 h4 HB0
  change Calls Tryz.prog 12 #[.agg #[.string host, .string pre, .slice A ms.length cap, .string hd, .string va], .agg #[.bool rq, .string me, .string tg, .int .i64 mi, .int .i64 st, .string re, fv], .string ho, .string pa] w _
  go_enter Tryz.func12, Tryz.ntmps12
  go_upto_region 1 with fail
  change Hid (Blk ((w.alloc (.cells #[.string host, .string pre, .slice A ms.length cap, .string hd, .string va] 24)).alloc (.cells #[.bool rq, .string me, .string tg, .int .i64 mi, .int .i64 st, .string re, fv] 27)) _ _ _) at HB1
  change Hid (Blk ((w.alloc (.cells #[.string host, .string pre, .slice A ms.length cap, .string hd, .string va] 24)).alloc (.cells #[.bool rq, .string me, .string tg, .int .i64 mi, .int .i64 st, .string re, fv] 27)) _ _ _) at HG1
  change Hid (Chg [] w ((w.alloc (.cells #[.string host, .string pre, .slice A ms.length cap, .string hd, .string va] 24)).alloc (.cells #[.bool rq, .string me, .string tg, .int .i64 mi, .int .i64 st, .string re, fv] 27))) at HC0
  generalize (w.alloc (.cells #[.string host, .string pre, .slice A ms.length cap, .string hd, .string va] 24)).alloc (.cells #[.bool rq, .string me, .string tg, .int .i64 mi, .int .i64 st, .string re, fv] 27) = W1 at HB1 HG1 HC0 ⊢
  generalize w.heap.size + 1 = g at HG1 ⊢
  generalize w.heap.size = b at HB1 ⊢
  have HB := HB1
  have HG := HG1
  have HC := HC0
  clear HB1 HG1 HC0
  (have HBb := HB.out;
   have HGb := HG.out;
   have c0 := HBb.cell 0 _ rfl;
   have c1 := HBb.cell 1 _ rfl;
   have c2 := HBb.cell 2 _ rfl;
   have c3 := HBb.cell 3 _ rfl;
   have c4 := HBb.cell 4 _ rfl;
   have d1 := HGb.cell 1 _ rfl;
   have d6 := HGb.cell 6 _ rfl;
   clear HBb HGb)
  obtain ⟨kz, hkz⟩ : ∃ kz, kindZ host ho = kz := ⟨_, rfl⟩
  have hk0 := kind_hosted host ho
  rw [hkz, H1.out] at hk0
  have HKZ := Lib.hid hkz
  have hk1 : (kz == 0) = !q1 := hk0
  clear hk0 hkz
  go_wp2_with fail
  refine (kind_any host ho _ hhs hos kz HKZ.out).mono ?_
  rintro e w2 ⟨rfl, H2⟩
  have HB2 := Lib.hid (HB.out.chg H2.out (by simp))
  have HG2 := Lib.hid (HG.out.chg H2.out (by simp))
  have HC2 := Lib.hid (HC.out.trans H2.out (by simp))
  clear c0 c1 c2 c3 c4 d1 d6
  clear HB HC HG
  have HB := HB2
  have HC := HC2
  have HG := HG2
  clear HB2 HC2 HG2
  (have HBb := HB.out;
   have HGb := HG.out;
   have c0 := HBb.cell 0 _ rfl;
   have c1 := HBb.cell 1 _ rfl;
   have c2 := HBb.cell 2 _ rfl;
   have c3 := HBb.cell 3 _ rfl;
   have c4 := HBb.cell 4 _ rfl;
   have d1 := HGb.cell 1 _ rfl;
   have d6 := HGb.cell 6 _ rfl;
   clear HBb HGb)
  cases q1
  · have HR := Lib.hid (show z = false from by rw [← HZ.out]; rfl)
    have hk2 : kz = 0 := by simpa using hk1
    clear hk1
    go_wp2
    go_ret
    exact ⟨by rw [HR.out]; rfl, HC.out⟩
  have hk3 : (kz == 0) = false := hk1
  have hk2 : ¬ kz = 0 := by simpa using hk1
  clear hk1
  go_wp2_with fail
  refine (rcovers_any pre pa _ hps pas q2 H2Q.out).mono ?_
  rintro e w' ⟨rfl, rfl⟩
  cases q2
  · have HR := Lib.hid (show z = false from by rw [← HZ.out]; rfl)
    go_wp2
    go_ret
    exact ⟨by rw [HR.out]; rfl, HC.out⟩
  have HZ4 := Lib.hid (show ((decide (ms.length = 0) || Lib.containsS ms me) && q4) = z from by rw [← HZ.out]; rfl)
  have he0 : ((ms.length : Int) == 0) = decide (ms.length = 0) := by
    rw [Bool.eq_iff_iff, beq_iff_eq, decide_eq_true_eq]
    omega
  obtain ⟨n0, hn0⟩ : ∃ n0, decide (ms.length = 0) = n0 := ⟨_, rfl⟩
  rw [hn0] at he0 HZ4
  clear hk2 hk3 hn0 HZ
  go_wp2_with fail
  clear he0
  go_loopw [9, 33] (fun s i wr => ∃ k : Nat, i = .int .i64 k ∧ k ≤ ms.length ∧ s = .bool (n0 || Lib.containsS (ms.take k) me) ∧ wr = w2) (fun _ i _ => ms.length - (intOf i).toNat)
  case atStart => exact ⟨0, rfl, by omega, by rw [List.take_zero, contS_nil, Bool.or_false], rfl⟩
  case round =>
    obtain ⟨k, rfl, hk, rfl, rfl⟩ := hrel
    by_cases hlt : k < ms.length
    · obtain ⟨bm, om, rfl, hbs, hx⟩ := hms.out.at1 (by rw [HLen.out]; omega)
      obtain ⟨x, hxk⟩ : ∃ x, ms[k]? = some x := ⟨_, List.getElem?_eq_getElem hlt⟩
      have e1 := HC.out.cell (hx k _ (by unfold strRows; rw [List.getElem?_map, hxk]; rfl)) (by simp)
      have HS := Lib.hid (contS_succ (me := me) hxk)
      clear hx hxk
      obtain ⟨acc, hacc⟩ : ∃ acc, (n0 || Lib.containsS (ms.take k) me) = acc := ⟨_, rfl⟩
      have HAC := Lib.hid hacc
      rw [hacc]
      clear hacc
      cases acc
      · have hq := eqb_dec x me
        obtain ⟨t, ht⟩ : ∃ t, decide (x = me) = t := ⟨_, rfl⟩
        rw [ht] at hq HS
        have HN := Lib.hid (show (n0 || Lib.containsS (ms.take (k + 1)) me) = t from by
          rw [HS.out, ← Bool.or_assoc, HAC.out, Bool.false_or])
        clear ht
        go_wp2
        go_roundw
        case rel => exact ⟨k + 1, by go_num, by omega, by rw [HN.out], by first | rfl | trivial⟩
        case measure => simp [intOf]; omega
      · have HN := Lib.hid (show (n0 || Lib.containsS (ms.take (k + 1)) me) = true from by
          rw [HS.out, ← Bool.or_assoc, HAC.out, Bool.true_or])
        go_wp2
        go_roundw
        case rel => exact ⟨k + 1, by go_num, by omega, by rw [HN.out], by first | rfl | trivial⟩
        case measure => simp [intOf]; omega
    · obtain rfl : k = ms.length := by omega
      rw [List.take_length]
      obtain ⟨acc, hacc⟩ : ∃ acc, (n0 || Lib.containsS ms me) = acc := ⟨_, rfl⟩
      rw [hacc] at HZ4 ⊢
      clear hacc
      by_cases k0 : hd.size = 0
      · have he := emp_true k0
        have HR := Lib.hid (show z = acc from by
          have q := H4.out
          rw [decide_eq_true k0, Bool.true_or] at q
          rw [← HZ4.out, ← q, Bool.and_true])
        clear k0
        go_wp2
        go_ret
        exact ⟨by rw [HR.out]; rfl, HC.out⟩
      · have he := emp_false k0
        have HQ4 := Lib.hid (show (gotB fs hd && decide (getB fs hd = va)) = q4 from by
          have q := H4.out
          rw [decide_eq_false k0, Bool.false_or] at q
          exact q)
        clear k0
        go_wp2_with fail
        refine (rget_any fv fs hd _ (Lib.hid (hfs.out.chg HC.out)) HFB hds).mono ?_
        rintro e w2 ⟨rfl, H2⟩
        have HB2 := Lib.hid (HB.out.chg H2.out (by simp))
        have HG2 := Lib.hid (HG.out.chg H2.out (by simp))
        have HC2 := Lib.hid (HC.out.trans H2.out (by simp))
        clear c0 c1 c2 c3 c4 d1 d6
        clear HB HC HG
        have HB := HB2
        have HC := HC2
        have HG := HG2
        clear HB2 HC2 HG2
        (have HBb := HB.out;
         have HGb := HG.out;
         have c0 := HBb.cell 0 _ rfl;
         have c1 := HBb.cell 1 _ rfl;
         have c2 := HBb.cell 2 _ rfl;
         have c3 := HBb.cell 3 _ rfl;
         have c4 := HBb.cell 4 _ rfl;
         have d1 := HGb.cell 1 _ rfl;
         have d6 := HGb.cell 6 _ rfl;
         clear HBb HGb)
        generalize gotB fs hd = gt at HQ4 ⊢
        have hq := eqb_dec (getB fs hd) va
        generalize getB fs hd = gv at HQ4 hq ⊢
        obtain ⟨t, ht⟩ : ∃ t, decide (gv = va) = t := ⟨_, rfl⟩
        rw [ht] at hq HQ4
        clear ht
        have HZ5 := Lib.hid (show (acc && (gt && t)) = z from by rw [HQ4.out]; exact HZ4.out)
        cases acc
        · have HR := Lib.hid (show z = false from by rw [← HZ5.out]; rfl)
          go_wp2
          go_ret
          exact ⟨by rw [HR.out]; rfl, HC.out⟩
        · cases gt
          · have HR := Lib.hid (show z = false from by rw [← HZ5.out]; rfl)
            go_wp2
            go_ret
            exact ⟨by rw [HR.out]; rfl, HC.out⟩
          · have HR := Lib.hid (show z = t from by rw [← HZ5.out]; rfl)
            go_wp2
            go_ret
            exact ⟨by rw [HR.out]; rfl, HC.out⟩
end Go.Proofs.YtjndgkbikhndoaaGreatDoor
