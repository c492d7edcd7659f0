/- Layer 13 (config): the walk of ConfigRange. -/
import Derived.Test.YtjndgkbikhndoaaGreatDoorX6
import Derived.Test.YtjndgkbikhndoaaGreatDoorX7
import Derived.Deep.CutBlock
namespace Go.Proofs.YtjndgkbikhndoaaGreatDoor
open Go.RowKit Go.ChangeShapes Go.WideShapes
set_option linter.unusedVariables false

/-- Which number is set, and the range in which it must lie. -/
structure Chosen (W0 W : World) (c : Cf) (ps : List (Value × Value)) (b g cap3 : Nat) (hv rv : Value) (n : Int) (lo hi : Value) : Prop where
  ex : ∃ (l m : Int) (c' : Cf), lo = .int .i64 l ∧ hi = .int .i64 m ∧ rightB c' = inR n l m ∧ CfSz c' ∧ c'.hosts = c.hosts ∧ mhs c'.routes = mhs c.routes ∧ c'.routes.length = c.routes.length ∧ Blk W b (cfRow c' hv rv) 36 ∧ Tbl W (.slice (some ⟨g, 0, none⟩) c.routes.length cap3) 21 ((c'.routes.zip ps).map (fun x => rtRow x.1 x.2.1 x.2.2)) ∧ Chg [] W0 W
/-- A row of a route has cells alone, one to one. -/
theorem row_one {w : World} {v : Value} {rs : List Rt} {ps : List (Value × Value)} (h : RtsAt w v rs ps) {y : Rt × Value × Value} (hy : y ∈ rs.zip ps) : ∀ u, u ∈ rtRow y.1 y.2.1 y.2.2 → u.oneCell' = true := by
  obtain ⟨i, hi, e⟩ := List.getElem_of_mem hy
  have h1 : (rs.zip ps)[i]? = some y := by rw [List.getElem?_eq_getElem hi, e]
  obtain ⟨h2, h3⟩ := List.getElem?_zip_eq_some.1 h1
  have ha := h.each i _ _ h2 h3
  obtain ⟨A1, c1, e1⟩ := ha.ms.form
  obtain ⟨A2, c2, e2⟩ := ha.hs.form
  rw [e1, e2]
  intro u hu
  simp [rtRow] at hu
  rcases hu with rfl | rfl | rfl | rfl | rfl | rfl | rfl | rfl | rfl | rfl | rfl | rfl | rfl | rfl | rfl | rfl | rfl | rfl | rfl | rfl | rfl <;> rfl
theorem cur_cell {cur : List Value} {rows : List (List Value)} {row : List Value} {rest : List (List Value)} {j : Nat} {v : Value} (h : cur.take (rows.length * 21) = rows.flatten) (hr : rows = row :: rest) (hj : row[j]? = some v) : cur[j]? = some v := by
  have q : (cur.take (rows.length * 21))[j]? = some v := by
    rw [h, hr, List.flatten_cons, List.getElem?_append_left (List.getElem?_eq_some_iff.1 hj).1]
    exact hj
  rw [List.getElem?_take] at q
  split at q
  · exact q
  · cases q
theorem zip_rows {c : Cf} {ps : List (Value × Value)} {x : Rt} {r : List Rt} {p : Value × Value} {pr : List (Value × Value)} (hx : c.routes = x :: r) (hp : ps = p :: pr) : (c.routes.zip ps).map (fun x => rtRow x.1 x.2.1 x.2.2) = rtRow x p.1 p.2 :: (r.zip pr).map (fun x => rtRow x.1 x.2.1 x.2.2) := by
  rw [hx, hp]
  rfl
theorem rt_len (r : Rt) (a b : Value) : (rtRow r a b).length = 21 := rfl
theorem rows_len (l : List (Rt × Value × Value)) : ∀ r, r ∈ l.map (fun x => rtRow x.1 x.2.1 x.2.2) → r.length = 21 := by
  intro r hr
  obtain ⟨y, -, rfl⟩ := List.mem_map.1 hr
  rfl
theorem chosen_r {w w5 : World} {c : Cf} {ps : List (Value × Value)} {b g cap3 : Nat} {cur : List Value} {hv rv : Value} {n : Int} {x : Rt} {r : List Rt} {p : Value × Value} {pr : List (Value × Value)} (l m : Int) (j : Nat) (HZ : rightB c = true) (hS : CfSz c) (hxr : c.routes = x :: r) (hpr : ps = p :: pr) (hlen : ps.length = c.routes.length)
    (hB : Blk w5 b (cfRow c hv rv) 36) (hBg : Blk w5 g cur 42) (htk : cur.take (((c.routes.zip ps).map (fun x => rtRow x.1 x.2.1 x.2.2)).length * 21) = ((c.routes.zip ps).map (fun x => rtRow x.1 x.2.1 x.2.2)).flatten) (hc3 : c.routes.length ≤ cap3) (hgb : b < g) (hgw : ¬ g < w.heap.size) (hc : Chg [] w w5)
    (x' : Rt) (hm : x'.m = x.m) (hh : x'.hosts = x.hosts) (hq : allR x.nums = true → allR x'.nums = inR n l m) (hrow : ∀ a b, rtRow x' a b = (rtRow x a b).set j (.int .i64 n)) (hj : j < 21) :
    Chosen w (w5.setCell ⟨g, j, none⟩ (.int .i64 n)) c ps b g cap3 hv rv n (.int .i64 l) (.int .i64 m) := by
  have hl : pr.length = r.length := by rw [hxr, hpr] at hlen; simpa using hlen
  have hL : (rtRow x p.1 p.2 :: (r.zip pr).map (fun x => rtRow x.1 x.2.1 x.2.2)).length = c.routes.length := by
    rw [hxr]
    simp only [List.length_cons, List.length_map, List.length_zip]
    omega
  refine ⟨l, m, { c with routes := x' :: r }, rfl, rfl, setR_right HZ hxr x' hm hh _ hq, setR_sz hS hxr x' hm hh, rfl, ?_, ?_, hB.other (a := ⟨g, j, none⟩) (by show b ≠ g; omega) _, ?_, hc.setCell (p := ⟨g, j, none⟩) (fun q => absurd q hgw) _⟩
  · show mhs (x' :: r) = mhs c.routes
    rw [hxr]
    unfold mhs
    rw [List.map_cons, List.map_cons, hm, hh]
  · show (x' :: r).length = c.routes.length
    rw [hxr]
    rfl
  · rw [zip_rows hxr hpr] at htk
    have q := row_tbl (j := j) (u := .int .i64 n) (cap := cap3) hBg htk (hrow p.1 p.2) (by rw [rt_len]; exact hj) (fun y hy => by
      rcases List.mem_cons.1 hy with rfl | hy
      · rfl
      · exact rows_len _ y hy) (by rw [hL]; exact hc3)
    rw [hL] at q
    show Tbl _ _ 21 (((x' :: r).zip ps).map (fun x => rtRow x.1 x.2.1 x.2.2))
    rw [hpr]
    exact q
theorem chosen_c {w w5 : World} {c : Cf} {ps : List (Value × Value)} {b g cap3 : Nat} {cur : List Value} {hv rv : Value} {n : Int} (l m : Int) (j : Nat) (HZ : rightB c = true) (hS : CfSz c) (hlen : ps.length = c.routes.length)
    (hB : Blk w5 b (cfRow c hv rv) 36) (hBg : Blk w5 g cur 42) (htk : cur.take (((c.routes.zip ps).map (fun x => rtRow x.1 x.2.1 x.2.2)).length * 21) = ((c.routes.zip ps).map (fun x => rtRow x.1 x.2.1 x.2.2)).flatten) (hc3 : c.routes.length ≤ cap3) (hgb : b < g) (hbw : ¬ b < w.heap.size) (hc : Chg [] w w5)
    (c' : Cf) (h1 : c'.hosts = c.hosts) (h2 : c'.routes = c.routes) (h3 : c'.every = c.every) (h4 : c'.path = c.path) (hq : allR c.nums = true → allR c'.nums = inR n l m) (hrow : cfRow c' hv rv = (cfRow c hv rv).set j (.int .i64 n)) :
    Chosen w (w5.setCell ⟨b, j, none⟩ (.int .i64 n)) c ps b g cap3 hv rv n (.int .i64 l) (.int .i64 m) := by
  have hL : ((c.routes.zip ps).map (fun x => rtRow x.1 x.2.1 x.2.2)).length = c.routes.length := by
    rw [List.length_map, List.length_zip]
    omega
  refine ⟨l, m, c', rfl, rfl, setC_right HZ h1 h2 h3 h4 _ hq, ⟨by rw [h1]; exact hS.hs, by rw [h2]; exact hS.rs, by rw [h1]; exact hS.hn, by rw [h2]; exact hS.rn, by rw [h4]; exact hS.path⟩, h1, by rw [h2], by rw [h2], by rw [hrow]; exact hB.set j _, ?_, hc.setCell (p := ⟨b, j, none⟩) (fun q => absurd q hbw) _⟩
  have q := Tbl.of_take (k := 21) (cap := cap3) hBg htk (rows_len _) (by rw [hL]; exact hc3)
  rw [hL] at q
  rw [h2]
  exact tbl_set q (fun a ha => by injection ha with ha; rw [← ha]; show g ≠ b; omega)
set_option maxHeartbeats 16000000 in
set_option maxRecDepth 100000 in
theorem range_any (c : Cf) (hv rv : Value) (ps : List (Value × Value)) (which n : Int) (w : World) (hE : Hid (Env w)) (hC : Hid (CfAt w c hv rv ps)) (hS : Hid (CfSz c)) :
    Calls Tryz.prog 4 #[.agg (cfRow c hv rv).toArray, .int .i64 which, .int .i64 n] w fun e w' => e = .returned (.bool true) ∧ Hid (Chg [] w w') := by
  have hl1 : (c.hosts.map htRow).length = c.hosts.length := List.length_map _
  obtain ⟨A, cap, rfl⟩ := hC.out.hs.form
  rw [hl1] at hC ⊢
  have hl2 : ((c.routes.zip ps).map (fun x => rtRow x.1 x.2.1 x.2.2)).length = c.routes.length := by
    have := hC.out.rs.len
    rw [List.length_map, List.length_zip]
    omega
  obtain ⟨A2, cap2, rfl⟩ := hC.out.rs.tb.form
  rw [hl2] at hC ⊢
  have HL2 := Lib.hid hl2
  clear hl1 hl2
  have HB0 := Lib.hid (Blk.new w (cfRow c (.slice A c.hosts.length cap) (.slice A2 c.routes.length cap2)) 36)
  have HC0 := Lib.hid ((Chg.refl [] w).alloc (.cells (cfRow c (.slice A c.hosts.length cap) (.slice A2 c.routes.length cap2)).toArray 36))
  have hrn := hS.out.rn
  obtain ⟨z, hz⟩ : ∃ z, rightB c = z := ⟨_, rfl⟩
  have HZ := Lib.hid hz
  clear hz
  change Calls Tryz.prog 4 #[.agg #[.slice A c.hosts.length cap, .slice A2 c.routes.length cap2, .int .i64 c.every, .int .i64 c.timeout, .int .i64 c.up, .int .i64 c.down, .string c.path, .int .i64 c.fails, .int .i64 c.base, .int .i64 c.longest, .int .i64 c.share, .int .i64 c.maxHead, .int .i64 c.maxBody, .int .i64 c.maxOut, .int .i64 c.headTime, .int .i64 c.idle, .int .i64 c.life, .int .i64 c.clients], .int .i64 which, .int .i64 n] w _
  go_enter Tryz.func4, Tryz.ntmps4
  go_upto_region 1 with fail
  change Hid (Blk (w.alloc (.cells #[.slice A c.hosts.length cap, .slice A2 c.routes.length cap2, .int .i64 c.every, .int .i64 c.timeout, .int .i64 c.up, .int .i64 c.down, .string c.path, .int .i64 c.fails, .int .i64 c.base, .int .i64 c.longest, .int .i64 c.share, .int .i64 c.maxHead, .int .i64 c.maxBody, .int .i64 c.maxOut, .int .i64 c.headTime, .int .i64 c.idle, .int .i64 c.life, .int .i64 c.clients] 36)) _ _ _) at HB0
  change Hid (Chg [] w (w.alloc (.cells #[.slice A c.hosts.length cap, .slice A2 c.routes.length cap2, .int .i64 c.every, .int .i64 c.timeout, .int .i64 c.up, .int .i64 c.down, .string c.path, .int .i64 c.fails, .int .i64 c.base, .int .i64 c.longest, .int .i64 c.share, .int .i64 c.maxHead, .int .i64 c.maxBody, .int .i64 c.maxOut, .int .i64 c.headTime, .int .i64 c.idle, .int .i64 c.life, .int .i64 c.clients] 36))) at HC0
  generalize w.alloc (.cells #[.slice A c.hosts.length cap, .slice A2 c.routes.length cap2, .int .i64 c.every, .int .i64 c.timeout, .int .i64 c.up, .int .i64 c.down, .string c.path, .int .i64 c.fails, .int .i64 c.base, .int .i64 c.longest, .int .i64 c.share, .int .i64 c.maxHead, .int .i64 c.maxBody, .int .i64 c.maxOut, .int .i64 c.headTime, .int .i64 c.idle, .int .i64 c.life, .int .i64 c.clients] 36) = W1 at HB0 HC0 ⊢
  obtain ⟨b, hb0⟩ : ∃ b, w.heap.size = b := ⟨_, rfl⟩
  rw [hb0] at HB0 ⊢
  have HBW := Lib.hid (show w.heap.size ≤ b from by omega)
  clear hb0
  have HB := HB0
  have HC := HC0
  clear HB0 HC0
  have HL0 := Lib.hid (cf_load HB.out)
  go_wp2_with (first | refine wpList_load_row rfl 36 _ rfl ⟨b, 0, none⟩ _ rfl HL0.out ?_ | refine wpList_load_want (by rfl) 36 _ rfl ⟨b, 0, none⟩ _ rfl HL0.out ?_)
  refine (rcheck_any c _ _ ps _ (Lib.hid (hC.out.chg HC.out)) hS z HZ.out).mono ?_
  rintro e W3 ⟨rfl, H3⟩
  have HB3 := Lib.hid (HB.out.chg H3.out (by simp))
  have HC3 := Lib.hid (HC.out.trans H3.out (by simp))
  clear HL0 HB HC
  have HB := HB3
  have HC := HC3
  clear HB3 HC3
  cases z
  · rw [show ok3 false = 3 from rfl]
    have HL0 := Lib.hid (cf_load HB.out)
    go_wp2_with (first | refine wpList_load_row rfl 36 _ rfl ⟨b, 0, none⟩ _ rfl HL0.out ?_ | refine wpList_load_want (by rfl) 36 _ rfl ⟨b, 0, none⟩ _ rfl HL0.out ?_)
    refine (check_any c _ _ ps _ (Lib.hid (hE.out.chg HC.out)) (Lib.hid (hC.out.chg HC.out)) hS false HZ.out).mono ?_
    rintro e W3 ⟨rfl, H3⟩
    have HB3 := Lib.hid (HB.out.chg H3.out (by simp))
    have HC3 := Lib.hid (HC.out.trans H3.out (by simp))
    clear HL0 HB HC
    have HB := HB3
    have HC := HC3
    clear HB3 HC3
    rw [show ok3 false = 3 from rfl]
    go_wp2_with fail
    refine (cspeaks_any _ (Lib.hid (hE.out.chg HC.out))).mono ?_
    rintro e W8 ⟨rfl, H8⟩
    go_wp2_with fail
    go_ret
    exact ⟨rfl, HC.out.trans H8.out (by simp)⟩
  · rw [show ok3 true = 0 from rfl]
    have R := rgt_of HZ.out
    have hr1 := R.r1
    obtain ⟨x, r, hxr⟩ : ∃ x r, c.routes = x :: r := by
      cases hq : c.routes with
      | nil => rw [hq] at hr1; simp at hr1
      | cons x r => exact ⟨_, _, rfl⟩
    obtain ⟨p, pr, hpr⟩ : ∃ p pr, ps = p :: pr := by
      have hlen := hC.out.rs.len
      cases hq : ps with
      | nil => rw [hq] at hlen; simp at hlen; omega
      | cons x r => exact ⟨_, _, rfl⟩
    have HXR := Lib.hid hxr
    have HPR := Lib.hid hpr
    clear R hxr hpr
    obtain ⟨A', cap', e3, hcap, h3⟩ := hC.out.rs.tb
    injection e3 with e31 e32 e33
    subst e31
    obtain ⟨bh, oh, rfl, hbh, hx⟩ := h3 (by rw [HL2.out]; omega)
    obtain ⟨v5, w5, hr, ho, hg⟩ := run_allT 34 42 21 232 _ 34 W3.heap.size W3 ((c.routes.zip ps).map (fun x => rtRow x.1 x.2.1 x.2.2)) bh oh cap2 Tryz.underlying34 info42 rfl (by decide) (fun i r hr j x hj => HC.out.cell (hx i r hr j x hj) (by simp)) (by intro r hr; obtain ⟨y, -, rfl⟩ := List.mem_map.1 hr; rfl) (by intro r hr; obtain ⟨y, hy, rfl⟩ := List.mem_map.1 hr; exact row_one hC.out.rs hy) (by rw [HL2.out]; omega) (by rw [HL2.out]; omega) (Nat.le_refl _)
    rw [HL2.out] at hr
    obtain ⟨g, cap3, cur, rfl, hgB, hBg, hc3, htk⟩ := ho.blk (by rw [HL2.out]; omega)
    rw [HL2.out] at hr hc3
    have HBg := Lib.hid hBg
    have HC5 := Lib.hid (HC.out.grown hg (by simp))
    have HB5 := Lib.hid (HB.out.chg ((Chg.refl [] W3).grown hg (by simp)) (by simp))
    have HTK := Lib.hid htk
    have hgb : b < g := Nat.lt_of_lt_of_le HB.out.lt hgB
    have HGB := Lib.hid hgb
    have HLEN := Lib.hid hC.out.rs.len
    have HBW2 := Lib.hid (show ¬ b < w.heap.size from by have := HBW.out; omega)
    have HGW := Lib.hid (show ¬ g < w.heap.size from by have := HC.out.size; omega)
    have hg1 := HBg.out.lt
    have c1 := HB.out.cell 1 _ rfl
    clear h3 hx e32 e33 ho hg htk hBg hgb hbh hcap
    go_upto_block 0 with (at_builtin; refine wpList_appT rfl 34 _ _ rfl _ _ rfl rfl _ w5 hr ?_)
    clear c1 HB HC
    have HB := HB5
    have HC := HC5
    clear HB5 HC5
    go_cut [8, 9] (fun s8 s9 wx => Hid (Chosen w wx c ps b g cap3 (.slice A c.hosts.length cap) (.slice (some ⟨bh, oh, none⟩) c.routes.length cap2) n s8 s9))
    case first =>
      obtain ⟨mm, hmm⟩ : ∃ mm, which.tmod 8 = mm := ⟨_, rfl⟩
      by_cases k0 : mm = 0
      · subst k0
        have q := HBg.out.cell 7 (.int .i64 x.per) (cur_cell HTK.out (zip_rows HXR.out HPR.out) rfl)
        have f := HBg.out.free 7
        go_wp2_with fail
        go_meet
        exact Lib.hid (chosen_r 1 M6 7 HZ.out hS.out HXR.out HPR.out HLEN.out HB.out HBg.out HTK.out hc3 HGB.out HGW.out HC.out { x with per := n } rfl rfl (num_per x n) (fun _ _ => rfl) (by decide))
      have e0 : (mm == 0) = false := beq_eq_false_iff_ne.2 k0
      by_cases k1 : mm = 1
      · subst k1
        have q := HBg.out.cell 6 (.int .i64 x.rate) (cur_cell HTK.out (zip_rows HXR.out HPR.out) rfl)
        have f := HBg.out.free 6
        go_wp2_with fail
        go_meet
        exact Lib.hid (chosen_r 0 M6 6 HZ.out hS.out HXR.out HPR.out HLEN.out HB.out HBg.out HTK.out hc3 HGB.out HGW.out HC.out { x with rate := n } rfl rfl (num_rate x n) (fun _ _ => rfl) (by decide))
      have e1 : (mm == 1) = false := beq_eq_false_iff_ne.2 k1
      by_cases k2 : mm = 2
      · subst k2
        have q := HBg.out.cell 16 (.int .i64 x.retries) (cur_cell HTK.out (zip_rows HXR.out HPR.out) rfl)
        have f := HBg.out.free 16
        go_wp2_with fail
        go_meet
        exact Lib.hid (chosen_r 0 5 16 HZ.out hS.out HXR.out HPR.out HLEN.out HB.out HBg.out HTK.out hc3 HGB.out HGW.out HC.out { x with retries := n } rfl rfl (num_retries x n) (fun _ _ => rfl) (by decide))
      have e2 : (mm == 2) = false := beq_eq_false_iff_ne.2 k2
      by_cases k3 : mm = 3
      · subst k3
        have q := HB.out.cell 11 (.int .i64 c.maxHead) rfl
        have f := HB.out.free 11
        go_wp2_with fail
        go_meet
        exact Lib.hid (chosen_c 16 65536 11 HZ.out hS.out HLEN.out HB.out HBg.out HTK.out hc3 HGB.out HBW2.out HC.out { c with maxHead := n } rfl rfl rfl rfl (cnum_maxHead c n) rfl)
      have e3 : (mm == 3) = false := beq_eq_false_iff_ne.2 k3
      by_cases k4 : mm = 4
      · subst k4
        have q := HB.out.cell 17 (.int .i64 c.clients) rfl
        have f := HB.out.free 17
        go_wp2_with fail
        go_meet
        exact Lib.hid (chosen_c 1 256 17 HZ.out hS.out HLEN.out HB.out HBg.out HTK.out hc3 HGB.out HBW2.out HC.out { c with clients := n } rfl rfl rfl rfl (cnum_clients c n) rfl)
      have e4 : (mm == 4) = false := beq_eq_false_iff_ne.2 k4
      by_cases k5 : mm = 5
      · subst k5
        have q := HBg.out.cell 17 (.int .i64 x.hedges) (cur_cell HTK.out (zip_rows HXR.out HPR.out) rfl)
        have f := HBg.out.free 17
        go_wp2_with fail
        go_meet
        exact Lib.hid (chosen_r 0 3 17 HZ.out hS.out HXR.out HPR.out HLEN.out HB.out HBg.out HTK.out hc3 HGB.out HGW.out HC.out { x with hedges := n } rfl rfl (num_hedges x n) (fun _ _ => rfl) (by decide))
      have e5 : (mm == 5) = false := beq_eq_false_iff_ne.2 k5
      by_cases k6 : mm = 6
      · subst k6
        have q := HB.out.cell 15 (.int .i64 c.idle) rfl
        have f := HB.out.free 15
        go_wp2_with fail
        go_meet
        exact Lib.hid (chosen_c 1 M6 15 HZ.out hS.out HLEN.out HB.out HBg.out HTK.out hc3 HGB.out HBW2.out HC.out { c with idle := n } rfl rfl rfl rfl (cnum_idle c n) rfl)
      have e6 : (mm == 6) = false := beq_eq_false_iff_ne.2 k6
      have q := HBg.out.cell 13 (.int .i64 x.percent) (cur_cell HTK.out (zip_rows HXR.out HPR.out) rfl)
      have f := HBg.out.free 13
      go_wp2_with fail
      go_meet
      exact Lib.hid (chosen_r 0 100 13 HZ.out hS.out HXR.out HPR.out HLEN.out HB.out HBg.out HTK.out hc3 HGB.out HGW.out HC.out { x with percent := n } rfl rfl (num_percent x n) (fun _ _ => rfl) (by decide))
    case rest =>
      clear HB HC
      obtain ⟨l, m, c', rfl, rfl, hR, hSz, hH, hM, hL, hB, hT, hC2⟩ := hcut.out.ex
      have HB := Lib.hid hB
      have HC := Lib.hid hC2
      have HT := Lib.hid hT
      have HR := Lib.hid hR
      have HSZ := Lib.hid hSz
      have HH := Lib.hid hH
      have HM := Lib.hid hM
      clear hcut hB hC2 hT hR hSz hH hM hL
      have c1 := HB.out.cell 1 _ rfl
      have f1 := HB.out.free 1
      go_upto_region 34 with fail
      have HB7 : Hid (Blk (wc.setCell ⟨b, 1, none⟩ (.slice (some ⟨g, 0, none⟩) c.routes.length cap3)) b (cfRow c' (.slice A c.hosts.length cap) (.slice (some ⟨g, 0, none⟩) c.routes.length cap3)) 36) := Lib.hid (HB.out.set 1 (.slice (some ⟨g, 0, none⟩) c.routes.length cap3))
      have HC7 := Lib.hid (HC.out.setCell (p := ⟨b, 1, none⟩) (fun q => absurd q HBW2.out) (.slice (some ⟨g, 0, none⟩) c.routes.length cap3))
      have HX7 : Hid (CfAt (wc.setCell ⟨b, 1, none⟩ (.slice (some ⟨g, 0, none⟩) c.routes.length cap3)) c' (.slice A c.hosts.length cap) (.slice (some ⟨g, 0, none⟩) c.routes.length cap3) ps) := Lib.hid ⟨by rw [HH.out]; exact hC.out.hs.chg HC7.out, rows_of hC.out.rs HC7.out HM.out (tbl_set HT.out (fun a ha => by injection ha with ha; rw [← ha]; show g ≠ b; have := HGB.out; omega))⟩
      clear c1 f1 HB HC HT
      generalize wc.setCell ⟨b, 1, none⟩ (.slice (some ⟨g, 0, none⟩) c.routes.length cap3) = W7 at *
      have HB := HB7
      have HC := HC7
      clear HB7 HC7
      obtain ⟨z2, hz2⟩ : ∃ z2, inR n l m = z2 := ⟨_, rfl⟩
      have HRR := Lib.hid (HR.out.trans hz2)
      have HL0 := Lib.hid (cf_load HB.out)
      go_wp2_with (first | refine wpList_load_row rfl 36 _ rfl ⟨b, 0, none⟩ _ rfl HL0.out ?_ | refine wpList_load_want (by rfl) 36 _ rfl ⟨b, 0, none⟩ _ rfl HL0.out ?_)
      refine (check_any c' _ _ ps _ (Lib.hid (hE.out.chg HC.out)) HX7 HSZ z2 HRR.out).mono ?_
      rintro e Wa ⟨rfl, Ha⟩
      have HCa := Lib.hid (HC.out.trans Ha.out (by simp))
      clear HL0 HB HC
      have HC := HCa
      clear HCa
      by_cases a1 : l ≤ n
      · by_cases a2 : n ≤ m
        · obtain rfl : true = z2 := by rw [← hz2]; unfold inR; rw [decide_eq_true a1, decide_eq_true a2]; rfl
          rw [show ok3 true = 0 from rfl]
          clear hz2
          go_wp2_with fail
          refine (cspeaks_any _ (Lib.hid (hE.out.chg HC.out))).mono ?_
          rintro e W8 ⟨rfl, H8⟩
          go_wp2_with fail
          go_ret
          exact ⟨rfl, HC.out.trans H8.out (by simp)⟩
        · obtain rfl : false = z2 := by rw [← hz2]; unfold inR; rw [decide_eq_false a2, Bool.and_false]
          rw [show ok3 false = 3 from rfl]
          have HD := Lib.hid (show decide (n ≤ m) = false from decide_eq_false a2)
          clear hz2 a2
          go_wp2_with (rw [HD.out])
          refine (cspeaks_any _ (Lib.hid (hE.out.chg HC.out))).mono ?_
          rintro e W8 ⟨rfl, H8⟩
          go_wp2_with fail
          go_ret
          exact ⟨rfl, HC.out.trans H8.out (by simp)⟩
      · obtain rfl : false = z2 := by rw [← hz2]; unfold inR; rw [decide_eq_false a1]; rfl
        rw [show ok3 false = 3 from rfl]
        have HD := Lib.hid (show decide (l ≤ n) = false from decide_eq_false a1)
        clear hz2
        go_wp2_with (rw [HD.out])
        refine (cspeaks_any _ (Lib.hid (hE.out.chg HC.out))).mono ?_
        rintro e W8 ⟨rfl, H8⟩
        go_wp2_with fail
        go_ret
        exact ⟨rfl, HC.out.trans H8.out (by simp)⟩
end Go.Proofs.YtjndgkbikhndoaaGreatDoor
