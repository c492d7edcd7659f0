/- Layer 14 (route): whether a match takes a request; both sides. -/
import Derived.Test.YtjndgkbikhndoaaGreatDoorY4
namespace Go.Proofs.YtjndgkbikhndoaaGreatDoor
open Go.RowKit Go.ChangeShapes Go.WideShapes
set_option linter.unusedVariables false

/-- A request's or a response's head. -/
structure Hd where
  request : Bool
  method : ByteArray
  target : ByteArray
  minor : Int
  status : Int
  reason : ByteArray
  fields : List Fd
def hdRow (h : Hd) (fv : Value) : List Value := [.bool h.request, .string h.method, .string h.target, .int .i64 h.minor, .int .i64 h.status, .string h.reason, fv]
def maRow (m : Mt) (mv : Value) : List Value := [.string m.host, .string m.pre, mv, .string m.header, .string m.value]
structure HdSz (h : Hd) : Prop where
  method : h.method.size ≤ 1048576
  target : h.target.size ≤ 1048576
  fs : BdF h.fields
def askB (m : Mt) (h : Hd) : Bool := decide (m.header.size = 0) || (gotB h.fields m.header && decide (getB h.fields m.header = m.value))
def methB (m : Mt) (h : Hd) : Bool := decide (m.methods.length = 0) || Lib.containsS m.methods h.method
/-- Whether a match takes a request. -/
def takesB (m : Mt) (h : Hd) (host path : ByteArray) : Bool := hostedB m.host host && (covB m.pre path && (methB m h && askB m h))
theorem ask_cases {hd va v : ByteArray} {g q4 : Bool} (h : (decide (hd.size = 0) || (g && decide (v = va))) = q4) : (hd.size = 0 ∧ q4 = true) ∨ (¬ hd.size = 0 ∧ g = false ∧ q4 = false) ∨ (¬ hd.size = 0 ∧ g = true ∧ v = va ∧ q4 = true) ∨ (¬ hd.size = 0 ∧ g = true ∧ ¬ v = va ∧ q4 = false) := by
  by_cases h0 : hd.size = 0
  · rw [decide_eq_true h0] at h
    exact .inl ⟨h0, h.symm⟩
  · rw [decide_eq_false h0, Bool.false_or] at h
    cases g
    · exact .inr (.inl ⟨h0, rfl, h.symm⟩)
    · rw [Bool.true_and] at h
      by_cases hv : v = va
      · rw [decide_eq_true hv] at h
        exact .inr (.inr (.inl ⟨h0, rfl, hv, h.symm⟩))
      · rw [decide_eq_false hv] at h
        exact .inr (.inr (.inr ⟨h0, rfl, hv, h.symm⟩))
set_option maxHeartbeats 8000000 in
set_option maxRecDepth 100000 in
theorem takesM_any (m : Mt) (h : Hd) (mv fv : Value) (ho pa : ByteArray) (w : World) (hms : Hid (Tbl w mv 1 (strRows m.methods))) (hfs : Hid (Flds w fv h.fields)) (hsz : Hid (MtSz m)) (hhz : Hid (HdSz h)) (hos : ho.size ≤ 1048577) (pas : pa.size ≤ 100000000) (z : Bool) (hz : takesB m h ho pa = z) :
    Calls Tryz.prog 11 #[.agg (maRow m mv).toArray, .agg (hdRow h fv).toArray, .string ho, .string pa] w fun e w' => e = .returned (.bool z) ∧ Hid (Chg [] w w') := by
  obtain ⟨host, pre, ms, hd, va⟩ := m
  obtain ⟨rq, me, tg, mi, st, re, fs⟩ := h
  have hlen : (strRows ms).length = ms.length := by unfold strRows; rw [List.length_map]
  obtain ⟨A, cap, rfl⟩ := hms.out.form
  dsimp only at hms hfs ⊢
  rw [hlen] at hms ⊢
  have HLen := Lib.hid hlen
  have hcap := hms.out.cap
  have hhs : host.size ≤ 1048576 := hsz.out.host
  have hps : pre.size ≤ 1048576 := hsz.out.pre
  have hds : hd.size ≤ 1048576 := hsz.out.header
  have hmn : ms.length ≤ 1048576 := hsz.out.mn
  have HFB := Lib.hid hhz.out.fs
  dsimp only at HFB
  clear hlen
  have HB0 := Lib.hid (Blk.new w (maRow ⟨host, pre, ms, hd, va⟩ (.slice A ms.length cap)) 24)
  have HB1 := Lib.hid (HB0.out.alloc (.cells (hdRow ⟨rq, me, tg, mi, st, re, fs⟩ fv).toArray 27))
  have HG1 := Lib.hid (Blk.new (w.alloc (.cells (maRow ⟨host, pre, ms, hd, va⟩ (.slice A ms.length cap)).toArray 24)) (hdRow ⟨rq, me, tg, mi, st, re, fs⟩ fv) 27)
  rw [show (w.alloc (.cells (maRow ⟨host, pre, ms, hd, va⟩ (.slice A ms.length cap)).toArray 24)).heap.size = w.heap.size + 1 by simp] at HG1
  have HC0 := Lib.hid (((Chg.refl [] w).alloc (.cells (maRow ⟨host, pre, ms, hd, va⟩ (.slice A ms.length cap)).toArray 24)).alloc (.cells (hdRow ⟨rq, me, tg, mi, st, re, fs⟩ fv).toArray 27))
  obtain ⟨q1, h1⟩ : ∃ q, hostedB host ho = q := ⟨_, rfl⟩
  obtain ⟨q2, h2⟩ : ∃ q, covB pre pa = q := ⟨_, rfl⟩
  obtain ⟨q4, h4⟩ : ∃ q, askB ⟨host, pre, ms, hd, va⟩ ⟨rq, me, tg, mi, st, re, fs⟩ = q := ⟨_, rfl⟩
  have hz2 : (q1 && (q2 && ((decide (ms.length = 0) || Lib.containsS ms me) && q4))) = z := by rw [← h1, ← h2, ← h4]; exact hz
  have H1 := Lib.hid h1
  have H2Q := Lib.hid h2
  have H4 := Lib.hid (show (decide (hd.size = 0) || (gotB fs hd && decide (getB fs hd = va))) = q4 from h4)
  have HZ := Lib.hid hz2
  clear hz hz2 h1 h2 h4 HB0
  change Calls Tryz.prog 11 #[.agg #[.string host, .string pre, .slice A ms.length cap, .string hd, .string va], .agg #[.bool rq, .string me, .string tg, .int .i64 mi, .int .i64 st, .string re, fv], .string ho, .string pa] w _
  go_enter Tryz.func11, Tryz.ntmps11
  go_upto_region 1 with fail
  change Hid (Blk ((w.alloc (.cells #[.string host, .string pre, .slice A ms.length cap, .string hd, .string va] 24)).alloc (.cells #[.bool rq, .string me, .string tg, .int .i64 mi, .int .i64 st, .string re, fv] 27)) _ _ _) at HB1
  change Hid (Blk ((w.alloc (.cells #[.string host, .string pre, .slice A ms.length cap, .string hd, .string va] 24)).alloc (.cells #[.bool rq, .string me, .string tg, .int .i64 mi, .int .i64 st, .string re, fv] 27)) _ _ _) at HG1
  change Hid (Chg [] w ((w.alloc (.cells #[.string host, .string pre, .slice A ms.length cap, .string hd, .string va] 24)).alloc (.cells #[.bool rq, .string me, .string tg, .int .i64 mi, .int .i64 st, .string re, fv] 27))) at HC0
  generalize (w.alloc (.cells #[.string host, .string pre, .slice A ms.length cap, .string hd, .string va] 24)).alloc (.cells #[.bool rq, .string me, .string tg, .int .i64 mi, .int .i64 st, .string re, fv] 27) = W1 at HB1 HG1 HC0 ⊢
  generalize w.heap.size + 1 = g at HG1 ⊢
  generalize w.heap.size = b at HB1 ⊢
  have HB := HB1
  have HG := HG1
  have HC := HC0
  clear HB1 HG1 HC0
  (have HBb := HB.out;
   have HGb := HG.out;
   have c0 := HBb.cell 0 _ rfl;
   have c1 := HBb.cell 1 _ rfl;
   have c2 := HBb.cell 2 _ rfl;
   have c3 := HBb.cell 3 _ rfl;
   have c4 := HBb.cell 4 _ rfl;
   have d1 := HGb.cell 1 _ rfl;
   have d6 := HGb.cell 6 _ rfl;
   clear HBb HGb)
  go_wp2_with fail
  refine (hosted_any host ho _ hhs hos q1 H1.out).mono ?_
  rintro e w' ⟨rfl, rfl⟩
  cases q1
  · have HR := Lib.hid (show z = false from by rw [← HZ.out]; rfl)
    go_wp2
    go_ret
    exact ⟨by rw [HR.out]; rfl, HC.out⟩
  go_wp2_with fail
  refine (covers_any pre pa _ hps pas q2 H2Q.out).mono ?_
  rintro e w' ⟨rfl, rfl⟩
  cases q2
  · have HR := Lib.hid (show z = false from by rw [← HZ.out]; rfl)
    go_wp2
    go_ret
    exact ⟨by rw [HR.out]; rfl, HC.out⟩
  by_cases k1 : ms.length = 0
  · have HZ4 := Lib.hid (show q4 = z from by rw [← HZ.out, decide_eq_true k1]; rfl)
    have k1i : ¬ (0 : Int) < (ms.length : Int) := by omega
    clear k1
    go_wp2_with fail
    refine (get_any fv fs hd _ (Lib.hid (hfs.out.chg HC.out)) HFB hds).mono ?_
    rintro e w2 ⟨rfl, H2⟩
    have HB2 := Lib.hid (HB.out.chg H2.out (by simp))
    have HG2 := Lib.hid (HG.out.chg H2.out (by simp))
    have HC2 := Lib.hid (HC.out.trans H2.out (by simp))
    clear c0 c1 c2 c3 c4 d1 d6
    clear HB HC HG
    have HB := HB2
    have HC := HC2
    have HG := HG2
    clear HB2 HC2 HG2
    (have HBb := HB.out;
     have HGb := HG.out;
     have c0 := HBb.cell 0 _ rfl;
     have c1 := HBb.cell 1 _ rfl;
     have c2 := HBb.cell 2 _ rfl;
     have c3 := HBb.cell 3 _ rfl;
     have c4 := HBb.cell 4 _ rfl;
     have d1 := HGb.cell 1 _ rfl;
     have d6 := HGb.cell 6 _ rfl;
     clear HBb HGb)
    have HA := H4.out
    generalize gotB fs hd = gt at HA ⊢
    generalize getB fs hd = gv at HA ⊢
    rcases ask_cases HA with ⟨k0, rfl⟩ | ⟨k0, rfl, rfl⟩ | ⟨k0, rfl, kv, rfl⟩ | ⟨k0, rfl, kv, rfl⟩
    · have he := emp_true k0
      have HR := Lib.hid (show z = true from by rw [← HZ4.out])
      clear HA k0
      go_wp2
      go_ret
      exact ⟨by rw [HR.out]; rfl, HC.out⟩
    · have he := emp_false k0
      have HR := Lib.hid (show z = false from by rw [← HZ4.out])
      clear HA k0
      go_wp2
      go_ret
      exact ⟨by rw [HR.out]; rfl, HC.out⟩
    · have he := emp_false k0
      have HR := Lib.hid (show z = true from by rw [← HZ4.out])
      have hq : (gv.toList == va.toList) = true := by rw [kv]; exact eqb_true va
      clear HA k0 kv
      go_wp2
      go_ret
      exact ⟨by rw [HR.out]; rfl, HC.out⟩
    · have he := emp_false k0
      have HR := Lib.hid (show z = false from by rw [← HZ4.out])
      have hq := eqb_false kv
      clear HA k0 kv
      go_wp2
      go_ret
      exact ⟨by rw [HR.out]; rfl, HC.out⟩
  · have k1i : (0 : Int) < (ms.length : Int) := by omega
    have HZ3 := Lib.hid (show (Lib.containsS ms me && q4) = z from by rw [← HZ.out, decide_eq_false k1]; rfl)
    obtain ⟨bm, om, rfl, hbs, hx⟩ := hms.out.at1 (by rw [HLen.out]; omega)
    have HCT := Lib.hid (fun (W : World) (hc : Chg [] w W) => Tryz.slices_Contains_string bm om ms.length cap ms me W (Nat.le_refl _) (by omega) (fun j hj => by
      rw [getD_str hj]
      exact hc.cell (hx j _ (by unfold strRows; rw [List.getElem?_map, List.getElem?_eq_getElem hj]; rfl)) (by simp)))
    rw [List.take_length] at HCT
    clear hx k1
    cases q3 : Lib.containsS ms me
    · rw [q3] at HZ3 HCT
      have HR := Lib.hid (show z = false from by rw [← HZ3.out]; rfl)
      clear q3
      go_wp2_with fail
      refine (HCT.out _ HC.out).mono ?_
      rintro e w' ⟨rfl, hw⟩
      rw [hw]
      clear hw
      go_wp2
      go_ret
      exact ⟨by rw [HR.out]; rfl, HC.out⟩
    · rw [q3] at HZ3 HCT
      have HZ4 := Lib.hid (show q4 = z from by rw [← HZ3.out]; rfl)
      clear q3
      go_wp2_with fail
      refine (HCT.out _ HC.out).mono ?_
      rintro e w' ⟨rfl, hw⟩
      rw [hw]
      clear hw
      go_wp2_with fail
      refine (get_any fv fs hd _ (Lib.hid (hfs.out.chg HC.out)) HFB hds).mono ?_
      rintro e w2 ⟨rfl, H2⟩
      have HB2 := Lib.hid (HB.out.chg H2.out (by simp))
      have HG2 := Lib.hid (HG.out.chg H2.out (by simp))
      have HC2 := Lib.hid (HC.out.trans H2.out (by simp))
      clear c0 c1 c2 c3 c4 d1 d6
      clear HB HC HG
      have HB := HB2
      have HC := HC2
      have HG := HG2
      clear HB2 HC2 HG2
      (have HBb := HB.out;
       have HGb := HG.out;
       have c0 := HBb.cell 0 _ rfl;
       have c1 := HBb.cell 1 _ rfl;
       have c2 := HBb.cell 2 _ rfl;
       have c3 := HBb.cell 3 _ rfl;
       have c4 := HBb.cell 4 _ rfl;
       have d1 := HGb.cell 1 _ rfl;
       have d6 := HGb.cell 6 _ rfl;
       clear HBb HGb)
      have HA := H4.out
      generalize gotB fs hd = gt at HA ⊢
      generalize getB fs hd = gv at HA ⊢
      rcases ask_cases HA with ⟨k0, rfl⟩ | ⟨k0, rfl, rfl⟩ | ⟨k0, rfl, kv, rfl⟩ | ⟨k0, rfl, kv, rfl⟩
      · have he := emp_true k0
        have HR := Lib.hid (show z = true from by rw [← HZ4.out])
        clear HA k0
        go_wp2
        go_ret
        exact ⟨by rw [HR.out]; rfl, HC.out⟩
      · have he := emp_false k0
        have HR := Lib.hid (show z = false from by rw [← HZ4.out])
        clear HA k0
        go_wp2
        go_ret
        exact ⟨by rw [HR.out]; rfl, HC.out⟩
      · have he := emp_false k0
        have HR := Lib.hid (show z = true from by rw [← HZ4.out])
        have hq : (gv.toList == va.toList) = true := by rw [kv]; exact eqb_true va
        clear HA k0 kv
        go_wp2
        go_ret
        exact ⟨by rw [HR.out]; rfl, HC.out⟩
      · have he := emp_false k0
        have HR := Lib.hid (show z = false from by rw [← HZ4.out])
        have hq := eqb_false kv
        clear HA k0 kv
        go_wp2
        go_ret
        exact ⟨by rw [HR.out]; rfl, HC.out⟩
end Go.Proofs.YtjndgkbikhndoaaGreatDoor
