/- Layer 13 (config): the walk of ConfigBounds. -/
import Derived.Test.YtjndgkbikhndoaaGreatDoorW4
import Derived.Test.YtjndgkbikhndoaaGreatDoorVE
namespace Go.Proofs.YtjndgkbikhndoaaGreatDoor
open Go.RowKit Go.ChangeShapes Go.WideShapes
set_option linter.unusedVariables false

set_option maxHeartbeats 16000000 in
set_option maxRecDepth 100000 in
theorem bounds_any (c : Cf) (hv rv : Value) (ps : List (Value × Value)) (w : World) (hE : Hid (Env w)) (hC : Hid (CfAt w c hv rv ps)) (hS : Hid (CfSz c)) :
    Calls Tryz.prog 7 #[.agg (cfRow c hv rv).toArray] w fun e w' => e = .returned (.bool true) ∧ Hid (Chg [] w w') := by
  have hl1 : (c.hosts.map htRow).length = c.hosts.length := List.length_map _
  obtain ⟨A, cap, rfl⟩ := hC.out.hs.form
  rw [hl1] at hC ⊢
  have hl2 : ((c.routes.zip ps).map (fun x => rtRow x.1 x.2.1 x.2.2)).length = c.routes.length := by
    have := hC.out.rs.len
    rw [List.length_map, List.length_zip]
    omega
  obtain ⟨A2, cap2, rfl⟩ := hC.out.rs.tb.form
  rw [hl2] at hC ⊢
  have HL1 := Lib.hid hl1
  have HL2 := Lib.hid hl2
  clear hl1 hl2
  have HB0 := Lib.hid (Blk.new w (cfRow c (.slice A c.hosts.length cap) (.slice A2 c.routes.length cap2)) 36)
  have HC0 := Lib.hid ((Chg.refl [] w).alloc (.cells (cfRow c (.slice A c.hosts.length cap) (.slice A2 c.routes.length cap2)).toArray 36))
  have hhn := hS.out.hn
  obtain ⟨z, hz⟩ : ∃ z, rightB c = z := ⟨_, rfl⟩
  have HZ := Lib.hid hz
  clear hz
  obtain ⟨E, hEz⟩ : ∃ E, ok3 z = E := ⟨_, rfl⟩
  obtain ⟨NA, hNA⟩ : ∃ NN, okN z (connsN c) = NN := ⟨_, rfl⟩
  obtain ⟨NT, hNT⟩ : ∃ NN, okN z (timersN c) = NN := ⟨_, rfl⟩
  obtain ⟨NB, hNB⟩ : ∃ NN, okN z (bufN c) = NN := ⟨_, rfl⟩
  have HEZ := Lib.hid hEz
  have HNA := Lib.hid hNA
  have HNT := Lib.hid hNT
  have HNB := Lib.hid hNB
  clear hEz hNA hNT hNB
  change Calls Tryz.prog 7 #[.agg #[.slice A c.hosts.length cap, .slice A2 c.routes.length cap2, .int .i64 c.every, .int .i64 c.timeout, .int .i64 c.up, .int .i64 c.down, .string c.path, .int .i64 c.fails, .int .i64 c.base, .int .i64 c.longest, .int .i64 c.share, .int .i64 c.maxHead, .int .i64 c.maxBody, .int .i64 c.maxOut, .int .i64 c.headTime, .int .i64 c.idle, .int .i64 c.life, .int .i64 c.clients]] w _
  go_enter Tryz.func7, Tryz.ntmps7
  go_upto_region 1 with fail
  change Hid (Blk (w.alloc (.cells #[.slice A c.hosts.length cap, .slice A2 c.routes.length cap2, .int .i64 c.every, .int .i64 c.timeout, .int .i64 c.up, .int .i64 c.down, .string c.path, .int .i64 c.fails, .int .i64 c.base, .int .i64 c.longest, .int .i64 c.share, .int .i64 c.maxHead, .int .i64 c.maxBody, .int .i64 c.maxOut, .int .i64 c.headTime, .int .i64 c.idle, .int .i64 c.life, .int .i64 c.clients] 36)) _ _ _) at HB0
  change Hid (Chg [] w (w.alloc (.cells #[.slice A c.hosts.length cap, .slice A2 c.routes.length cap2, .int .i64 c.every, .int .i64 c.timeout, .int .i64 c.up, .int .i64 c.down, .string c.path, .int .i64 c.fails, .int .i64 c.base, .int .i64 c.longest, .int .i64 c.share, .int .i64 c.maxHead, .int .i64 c.maxBody, .int .i64 c.maxOut, .int .i64 c.headTime, .int .i64 c.idle, .int .i64 c.life, .int .i64 c.clients] 36))) at HC0
  generalize w.alloc (.cells #[.slice A c.hosts.length cap, .slice A2 c.routes.length cap2, .int .i64 c.every, .int .i64 c.timeout, .int .i64 c.up, .int .i64 c.down, .string c.path, .int .i64 c.fails, .int .i64 c.base, .int .i64 c.longest, .int .i64 c.share, .int .i64 c.maxHead, .int .i64 c.maxBody, .int .i64 c.maxOut, .int .i64 c.headTime, .int .i64 c.idle, .int .i64 c.life, .int .i64 c.clients] 36) = W1 at HB0 HC0 ⊢
  obtain ⟨b, hb0⟩ : ∃ b, w.heap.size = b := ⟨_, rfl⟩
  rw [hb0] at HB0 ⊢
  have HBW := Lib.hid (show w.heap.size ≤ b from by omega)
  clear hb0
  have HL0 := Lib.hid (cf_load HB0.out)
  go_wp2_with (first | refine wpList_load_row rfl 36 _ rfl ⟨b, 0, none⟩ _ rfl HL0.out ?_ | refine wpList_load_want (by rfl) 36 _ rfl ⟨b, 0, none⟩ _ rfl HL0.out ?_)
  refine (conns_any c _ _ ps _ (Lib.hid (hE.out.chg HC0.out)) (Lib.hid (hC.out.chg HC0.out)) hS z HZ.out).mono ?_
  rintro e W2 ⟨rfl, H2⟩
  rw [HEZ.out, HNA.out]
  have HB2 := Lib.hid (HB0.out.chg H2.out (by simp))
  have HC2 := Lib.hid (HC0.out.trans H2.out (by simp))
  clear HL0 HB0
  have HL0 := Lib.hid (cf_load HB2.out)
  go_wp2_with (first | refine wpList_load_row rfl 36 _ rfl ⟨b, 0, none⟩ _ rfl HL0.out ?_ | refine wpList_load_want (by rfl) 36 _ rfl ⟨b, 0, none⟩ _ rfl HL0.out ?_)
  refine (timers_any c _ _ ps _ (Lib.hid (hE.out.chg HC2.out)) (Lib.hid (hC.out.chg HC2.out)) hS z HZ.out).mono ?_
  rintro e W3 ⟨rfl, H3⟩
  rw [HEZ.out, HNT.out]
  have HB3 := Lib.hid (HB2.out.chg H3.out (by simp))
  have HC3 := Lib.hid (HC2.out.trans H3.out (by simp))
  clear HL0 HB2
  have HL0 := Lib.hid (cf_load HB3.out)
  go_wp2_with (first | refine wpList_load_row rfl 36 _ rfl ⟨b, 0, none⟩ _ rfl HL0.out ?_ | refine wpList_load_want (by rfl) 36 _ rfl ⟨b, 0, none⟩ _ rfl HL0.out ?_)
  refine (buf_any c _ _ ps _ (Lib.hid (hE.out.chg HC3.out)) (Lib.hid (hC.out.chg HC3.out)) hS z HZ.out).mono ?_
  rintro e W4 ⟨rfl, H4⟩
  rw [HEZ.out, HNB.out]
  have HB4 := Lib.hid (HB3.out.chg H4.out (by simp))
  have HC4 := Lib.hid (HC3.out.trans H4.out (by simp))
  clear HL0 HB3
  cases z
  · obtain rfl : 3 = E := HEZ.out
    go_wp2_with fail
    refine (cspeaks_any _ (Lib.hid (hE.out.chg HC4.out))).mono ?_
    rintro e W8 ⟨rfl, H8⟩
    go_wp2_with fail
    go_ret
    exact ⟨rfl, HC4.out.trans H8.out (by simp)⟩
  · obtain rfl : 0 = E := HEZ.out
    have R := rgt_of HZ.out
    have hp := rgt_pos R
    have ht := timers_bd R
    have hh1 := R.h1
    rw [show connsN c = NA from HNA.out, show bufN c = NB from HNB.out] at hp
    rw [show timersN c = NT from HNT.out] at ht
    have HBG := Lib.hid (fun (x : Ht) (r : List Ht) (h : c.hosts = x :: r) => more_buf HZ.out h)
    obtain ⟨x, r, hxr⟩ : ∃ x r, c.hosts = x :: r := by
      cases hq : c.hosts with
      | nil => rw [hq] at hh1; simp at hh1
      | cons x r => exact ⟨_, _, rfl⟩
    have hxc := R.caps x (by rw [hxr]; simp)
    have HXR := Lib.hid hxr
    clear R hxr
    have hTB := hC.out.hs
    obtain ⟨A', cap', e3, hcap, h3⟩ := hTB
    injection e3 with e31 e32 e33
    subst e31
    obtain ⟨bh, oh, rfl, hbh, hx⟩ := h3 (by rw [HL1.out]; omega)
    obtain ⟨v5, w5, hr, ho, hg⟩ := run_allT 33 45 3 32 _ 33 W4.heap.size W4 (c.hosts.map htRow) bh oh cap Tryz.underlying33 info45 rfl (by decide) (fun i r hr j x hj => HC4.out.cell (hx i r hr j x hj) (by simp)) (by intro r hr; obtain ⟨y, -, rfl⟩ := List.mem_map.1 hr; rfl) (by intro r hr; obtain ⟨y, -, rfl⟩ := List.mem_map.1 hr; simp [htRow, Value.oneCell']) (by rw [HL1.out]; omega) (by rw [HL1.out]; omega) (Nat.le_refl _)
    rw [HL1.out] at hr
    obtain ⟨g, cap3, cur, rfl, hgB, hBg, hc3, htk⟩ := ho.blk (by rw [HL1.out]; omega)
    rw [HL1.out] at hr hc3
    have HBg := Lib.hid hBg
    have HC5 := Lib.hid (HC4.out.grown hg (by simp))
    have HB5 := Lib.hid (HB4.out.chg ((Chg.refl [] W4).grown hg (by simp)) (by simp))
    have HTK := Lib.hid htk
    have hgb : b < g := Nat.lt_of_lt_of_le HB4.out.lt hgB
    have hgw : ¬ g < w.heap.size := by have := HC4.out.size; omega
    have HGW := Lib.hid hgw
    have q1 := HBg.out.cell 1 (.int .i64 x.cap) (by
      have q : (cur.take ((c.hosts.map htRow).length * 3))[1]? = some (.int .i64 x.cap) := by rw [htk, HXR.out]; rfl
      rw [List.getElem?_take] at q
      split at q
      · exact q
      · cases q)
    have f1 := HBg.out.free 1
    have hg1 := HBg.out.lt
    have c0 := HB4.out.cell 0 _ rfl
    clear h3 hx e32 e33 ho hg htk hBg hgw
    by_cases h64 : x.cap = 64
    · have HF := full_conns HZ.out HXR.out h64
      rw [show connsN c = NA from HNA.out] at HF
      go_wp2_with (at_builtin; refine wpList_appT rfl 33 _ _ rfl _ _ rfl rfl _ w5 hr ?_)
      refine (cspeaks_any _ (Lib.hid (hE.out.chg HC5.out))).mono ?_
      rintro e W8 ⟨rfl, H8⟩
      go_wp2_with fail
      go_ret
      exact ⟨rfl, HC5.out.trans H8.out (by simp)⟩
    · have hw1 : IntKind.i64.wrap (x.cap + 1) = x.cap + 1 := wrap_in (by omega) (by omega)
      have HWA := Lib.hid (show IntKind.i64.wrap (NA + 1) = NA + 1 from wrap_in (by omega) (by omega))
      have HWT := Lib.hid (show IntKind.i64.wrap (NT + 3) = NT + 3 from wrap_in (by omega) (by omega))
      have HA2 := Lib.hid (show okN true (connsN c.more) = NA + 1 from by rw [show okN true (connsN c.more) = connsN c.more from rfl, more_conns HXR.out, show connsN c = NA from HNA.out])
      have HT2 := Lib.hid (show okN true (timersN c.more) = NT + 3 from by rw [show okN true (timersN c.more) = timersN c.more from rfl, more_timers HXR.out, show timersN c = NT from HNT.out])
      obtain ⟨N2, hN2⟩ : ∃ N2, okN true (bufN c.more) = N2 := ⟨_, rfl⟩
      have hlt : NB < N2 := by
        have q := HBG.out x r HXR.out
        rw [show bufN c = NB from HNB.out, show bufN c.more = N2 from hN2] at q
        exact q
      have HN2 := Lib.hid hN2
      have HZM := Lib.hid (more_right HZ.out HXR.out h64)
      have HSM := Lib.hid (more_sz hS.out)
      clear hN2
      go_upto_region 11 with (at_builtin; refine wpList_appT rfl 33 _ _ rfl _ _ rfl rfl _ w5 hr ?_)
      have HB6 := Lib.hid (HB5.out.other (a := ⟨g, 1, none⟩) (by show b ≠ g; omega) (.int .i64 (x.cap + 1)))
      have HC6 := Lib.hid (HC5.out.setCell (p := ⟨g, 1, none⟩) (by intro q; exact absurd q HGW.out) (.int .i64 (x.cap + 1)))
      have HT6 := Lib.hid (more_tbl HBg.out HTK.out HXR.out hc3)
      clear q1 f1 hg1 c0 HBg HC5 HB5
      generalize w5.setCell ⟨g, 1, none⟩ (.int .i64 (x.cap + 1)) = W6 at *
      have c0 := HB6.out.cell 0 _ rfl
      have f0 := HB6.out.free 0
      go_upto_region 12 with fail
      have HB7 : Hid (Blk (W6.setCell ⟨b, 0, none⟩ (.slice (some ⟨g, 0, none⟩) c.hosts.length cap3)) b (cfRow c.more (.slice (some ⟨g, 0, none⟩) c.hosts.length cap3) (.slice A2 c.routes.length cap2)) 36) := Lib.hid (HB6.out.set 0 (.slice (some ⟨g, 0, none⟩) c.hosts.length cap3))
      have HC7 := Lib.hid (HC6.out.setCell (p := ⟨b, 0, none⟩) (by intro q; have := HBW.out; have : b < w.heap.size := q; omega) (.slice (some ⟨g, 0, none⟩) c.hosts.length cap3))
      have HX7 := Lib.hid (more_at hC.out HC7.out (tbl_set HT6.out (p := ⟨b, 0, none⟩) (by intro a ha; injection ha with ha; rw [← ha]; show g ≠ b; omega)))
      clear c0 f0 HB6 HC6 HT6
      generalize W6.setCell ⟨b, 0, none⟩ (.slice (some ⟨g, 0, none⟩) c.hosts.length cap3) = W7 at *
      have HL0 := Lib.hid (cf_load HB7.out)
      go_wp2_with (first | refine wpList_load_row rfl 36 _ rfl ⟨b, 0, none⟩ _ rfl HL0.out ?_ | refine wpList_load_want (by rfl) 36 _ rfl ⟨b, 0, none⟩ _ rfl HL0.out ?_)
      refine (conns_any c.more _ _ ps _ (Lib.hid (hE.out.chg HC7.out)) HX7 HSM true HZM.out).mono ?_
      rintro e Wa ⟨rfl, Ha⟩
      rw [HA2.out, show ok3 true = 0 from rfl]
      have HBa := Lib.hid (HB7.out.chg Ha.out (by simp))
      have HCa := Lib.hid (HC7.out.trans Ha.out (by simp))
      have HXa := Lib.hid (HX7.out.chg Ha.out)
      clear HL0 HB7 HX7
      have HL0 := Lib.hid (cf_load HBa.out)
      go_wp2_with (first | refine wpList_load_row rfl 36 _ rfl ⟨b, 0, none⟩ _ rfl HL0.out ?_ | refine wpList_load_want (by rfl) 36 _ rfl ⟨b, 0, none⟩ _ rfl HL0.out ?_)
      refine (timers_any c.more _ _ ps _ (Lib.hid (hE.out.chg HCa.out)) HXa HSM true HZM.out).mono ?_
      rintro e Wb ⟨rfl, Hb⟩
      rw [HT2.out, show ok3 true = 0 from rfl]
      have HBb := Lib.hid (HBa.out.chg Hb.out (by simp))
      have HCb := Lib.hid (HCa.out.trans Hb.out (by simp))
      have HXb := Lib.hid (HXa.out.chg Hb.out)
      clear HL0 HBa HXa
      have HL0 := Lib.hid (cf_load HBb.out)
      go_wp2_with (first | refine wpList_load_row rfl 36 _ rfl ⟨b, 0, none⟩ _ rfl HL0.out ?_ | refine wpList_load_want (by rfl) 36 _ rfl ⟨b, 0, none⟩ _ rfl HL0.out ?_)
      refine (buf_any c.more _ _ ps _ (Lib.hid (hE.out.chg HCb.out)) HXb HSM true HZM.out).mono ?_
      rintro e Wc ⟨rfl, Hc⟩
      rw [HN2.out, show ok3 true = 0 from rfl]
      have HCc := Lib.hid (HCb.out.trans Hc.out (by simp))
      have hwa := HWA.out
      have hwt := HWT.out
      go_wp2_with fail
      refine (cspeaks_any _ (Lib.hid (hE.out.chg HCc.out))).mono ?_
      rintro e W8 ⟨rfl, H8⟩
      go_wp2_with fail
      go_ret
      exact ⟨rfl, HCc.out.trans H8.out (by simp)⟩
end Go.Proofs.YtjndgkbikhndoaaGreatDoor
