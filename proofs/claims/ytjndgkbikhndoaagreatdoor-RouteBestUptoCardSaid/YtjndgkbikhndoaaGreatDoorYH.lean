/- Layer 14 (route): the walk of RouteBest. -/
import Derived.Test.YtjndgkbikhndoaaGreatDoorYG
import Derived.Test.YtjndgkbikhndoaaGreatDoorX4
namespace Go.Proofs.YtjndgkbikhndoaaGreatDoor
open Go.RowKit Go.ChangeShapes Go.WideShapes
set_option linter.unusedVariables false
set_option linter.unusedSimpArgs false

theorem mt_load {w : World} {p : Nat} {r : Rt} {mv hv : Value} (h : Blk w p (rtRow r mv hv) 42) : (loadVar 24 ⟨p, 0, none⟩).run Tryz.prog w = .ok (.agg (maRow r.m mv).toArray) w :=
  load_row 24 _ (maRow r.m mv) Tryz.underlying24 rfl (by kernel_rfl) (fun j x hj => by
    rw [Nat.zero_add]
    refine h.cell j x ?_
    match j, hj with
    | 0, hj => exact hj
    | 1, hj => exact hj
    | 2, hj => exact hj
    | 3, hj => exact hj
    | 4, hj => exact hj
    | j + 5, hj => simp [maRow] at hj)
theorem rt_load {w : World} {c : Cf} {hv rv : Value} {ps : List (Value × Value)} (hC : CfAt w c hv rv ps) {i : Nat} {r : Rt} (hi : c.routes[i]? = some r) :
    ∃ Am lm cm bk o cap, rv = .slice (some ⟨bk, o, none⟩) c.routes.length cap ∧ c.routes.length ≤ cap ∧ Tbl w (.slice Am lm cm) 1 (strRows r.m.methods) ∧ w.cell? ⟨bk, o + i * 21, none⟩ = some (.string r.m.host) ∧ w.cell? ⟨bk, o + i * 21 + 1, none⟩ = some (.string r.m.pre) ∧ (∀ W, Chg [] w W → (loadVar 24 ⟨bk, o + i * 21, none⟩).run Tryz.prog W = .ok (.agg (maRow r.m (.slice Am lm cm)).toArray) W) := by
  have hl := hC.rs.len
  have hil := (List.getElem?_eq_some_iff.1 hi).1
  obtain ⟨p, hp⟩ : ∃ p, ps[i]? = some p := ⟨_, List.getElem?_eq_getElem (by omega)⟩
  have hrow : ((c.routes.zip ps).map (fun x => rtRow x.1 x.2.1 x.2.2))[i]? = some (rtRow r p.1 p.2) := by
    rw [List.getElem?_map, (List.getElem?_zip_eq_some (z := (r, p))).2 ⟨hi, hp⟩]
    rfl
  have hl2 : ((c.routes.zip ps).map (fun x => rtRow x.1 x.2.1 x.2.2)).length = c.routes.length := by
    rw [List.length_map, List.length_zip]
    omega
  obtain ⟨A, cap, rfl, hcap, h3⟩ := hC.rs.tb
  rw [hl2] at hcap h3 ⊢
  obtain ⟨bk, o, rfl, hb, hx⟩ := h3 (by omega)
  have hms := (hC.rs.each i r p hi hp).ms
  obtain ⟨Am, cm, hm⟩ := hms.form
  rw [hm] at hrow hms
  refine ⟨Am, _, cm, bk, o, cap, rfl, hcap, hms, hx i _ hrow 0 _ rfl, hx i _ hrow 1 _ rfl, fun W hW => ?_⟩
  refine load_row 24 _ (maRow r.m (.slice Am (strRows r.m.methods).length cm)) Tryz.underlying24 rfl (by kernel_rfl) (fun j x hj => hW.cell (hx i _ hrow j x ?_) (by simp))
  match j, hj with
  | 0, hj => exact hj
  | 1, hj => exact hj
  | 2, hj => exact hj
  | 3, hj => exact hj
  | 4, hj => exact hj
  | j + 5, hj => simp [maRow] at hj
/-- What lies in memory while the best route is looked at. -/
structure SB (b g : Nat) (cl hl : List Value) (w W : World) : Prop where
  cb : Blk W b cl 36
  hb : Blk W g hl 27
  ch : Chg [] w W
theorem SB.chg {b g : Nat} {cl hl : List Value} {w W W' : World} (h : SB b g cl hl w W) (hc : Chg [] W W') : SB b g cl hl w W' := ⟨h.cb.chg hc (by simp), h.hb.chg hc (by simp), h.ch.trans hc (by simp)⟩
structure SP (b g p : Nat) (cl hl pl : List Value) (w W : World) : Prop where
  cb : Blk W b cl 36
  hb : Blk W g hl 27
  pb : Blk W p pl 42
  ch : Chg [] w W
theorem SP.chg {b g p : Nat} {cl hl pl : List Value} {w W W' : World} (h : SP b g p cl hl pl w W) (hc : Chg [] W W') : SP b g p cl hl pl w W' := ⟨h.cb.chg hc (by simp), h.hb.chg hc (by simp), h.pb.chg hc (by simp), h.ch.trans hc (by simp)⟩
theorem emp_tak {rs : List Rt} {h : Hd} {ho pa : ByteArray} {k : Nat} {r : Rt} (hr : rs[k]? = some r) : (!(takK rs h ho pa (k + 1)).isEmpty) = (!(takK rs h ho pa k).isEmpty || takesB r.m h ho pa) := by
  rw [takK_succ rs h ho pa hr]
  cases takesB r.m h ho pa
  · simp
  · simp
set_option maxHeartbeats 16000000 in
set_option maxRecDepth 100000 in
theorem best_any (c : Cf) (hv rv : Value) (ps : List (Value × Value)) (h : Hd) (fv : Value) (w : World) (hE : Hid (Env w)) (hC : Hid (CfAt w c hv rv ps)) (hS : Hid (CfSz c)) (hfs : Hid (Flds w fv h.fields)) (hhz : Hid (HdSz h)) :
    Calls Tryz.prog 8 #[.agg (cfRow c hv rv).toArray, .agg (hdRow h fv).toArray] w fun e w' => e = .returned (.bool true) ∧ Hid (Chg [] w w') := by
  have hl1 : (c.hosts.map htRow).length = c.hosts.length := List.length_map _
  obtain ⟨A, cap, rfl⟩ := hC.out.hs.form
  rw [hl1] at hC ⊢
  have hl2 : ((c.routes.zip ps).map (fun x => rtRow x.1 x.2.1 x.2.2)).length = c.routes.length := by
    have := hC.out.rs.len
    rw [List.length_map, List.length_zip]
    omega
  obtain ⟨A2, cap2, rfl⟩ := hC.out.rs.tb.form
  rw [hl2] at hC ⊢
  have HL2 := Lib.hid hl2
  have hcap2 := hC.out.rs.tb.cap
  have hrn := hS.out.rn
  clear hl1 hl2
  have HB0 := Lib.hid ((Blk.new w (cfRow c (.slice A c.hosts.length cap) (.slice A2 c.routes.length cap2)) 36).alloc (.cells (hdRow h fv).toArray 27))
  have HG0 := Lib.hid (Blk.new (w.alloc (.cells (cfRow c (.slice A c.hosts.length cap) (.slice A2 c.routes.length cap2)).toArray 36)) (hdRow h fv) 27)
  rw [show (w.alloc (.cells (cfRow c (.slice A c.hosts.length cap) (.slice A2 c.routes.length cap2)).toArray 36)).heap.size = w.heap.size + 1 by simp] at HG0
  have HC0 := Lib.hid (((Chg.refl [] w).alloc (.cells (cfRow c (.slice A c.hosts.length cap) (.slice A2 c.routes.length cap2)).toArray 36)).alloc (.cells (hdRow h fv).toArray 27))
  obtain ⟨z, hz⟩ : ∃ z, rightB c = z := ⟨_, rfl⟩
  have HZ := Lib.hid hz
  clear hz
  change Calls Tryz.prog 8 #[.agg #[.slice A c.hosts.length cap, .slice A2 c.routes.length cap2, .int .i64 c.every, .int .i64 c.timeout, .int .i64 c.up, .int .i64 c.down, .string c.path, .int .i64 c.fails, .int .i64 c.base, .int .i64 c.longest, .int .i64 c.share, .int .i64 c.maxHead, .int .i64 c.maxBody, .int .i64 c.maxOut, .int .i64 c.headTime, .int .i64 c.idle, .int .i64 c.life, .int .i64 c.clients], .agg #[.bool h.request, .string h.method, .string h.target, .int .i64 h.minor, .int .i64 h.status, .string h.reason, fv]] w _
  go_enter Tryz.func8, Tryz.ntmps8
  go_upto_region 1 with fail
  change Hid (Blk ((w.alloc (.cells #[.slice A c.hosts.length cap, .slice A2 c.routes.length cap2, .int .i64 c.every, .int .i64 c.timeout, .int .i64 c.up, .int .i64 c.down, .string c.path, .int .i64 c.fails, .int .i64 c.base, .int .i64 c.longest, .int .i64 c.share, .int .i64 c.maxHead, .int .i64 c.maxBody, .int .i64 c.maxOut, .int .i64 c.headTime, .int .i64 c.idle, .int .i64 c.life, .int .i64 c.clients] 36)).alloc (.cells #[.bool h.request, .string h.method, .string h.target, .int .i64 h.minor, .int .i64 h.status, .string h.reason, fv] 27)) _ _ _) at HB0
  change Hid (Blk ((w.alloc (.cells #[.slice A c.hosts.length cap, .slice A2 c.routes.length cap2, .int .i64 c.every, .int .i64 c.timeout, .int .i64 c.up, .int .i64 c.down, .string c.path, .int .i64 c.fails, .int .i64 c.base, .int .i64 c.longest, .int .i64 c.share, .int .i64 c.maxHead, .int .i64 c.maxBody, .int .i64 c.maxOut, .int .i64 c.headTime, .int .i64 c.idle, .int .i64 c.life, .int .i64 c.clients] 36)).alloc (.cells #[.bool h.request, .string h.method, .string h.target, .int .i64 h.minor, .int .i64 h.status, .string h.reason, fv] 27)) _ _ _) at HG0
  change Hid (Chg [] w ((w.alloc (.cells #[.slice A c.hosts.length cap, .slice A2 c.routes.length cap2, .int .i64 c.every, .int .i64 c.timeout, .int .i64 c.up, .int .i64 c.down, .string c.path, .int .i64 c.fails, .int .i64 c.base, .int .i64 c.longest, .int .i64 c.share, .int .i64 c.maxHead, .int .i64 c.maxBody, .int .i64 c.maxOut, .int .i64 c.headTime, .int .i64 c.idle, .int .i64 c.life, .int .i64 c.clients] 36)).alloc (.cells #[.bool h.request, .string h.method, .string h.target, .int .i64 h.minor, .int .i64 h.status, .string h.reason, fv] 27))) at HC0
  generalize (w.alloc (.cells #[.slice A c.hosts.length cap, .slice A2 c.routes.length cap2, .int .i64 c.every, .int .i64 c.timeout, .int .i64 c.up, .int .i64 c.down, .string c.path, .int .i64 c.fails, .int .i64 c.base, .int .i64 c.longest, .int .i64 c.share, .int .i64 c.maxHead, .int .i64 c.maxBody, .int .i64 c.maxOut, .int .i64 c.headTime, .int .i64 c.idle, .int .i64 c.life, .int .i64 c.clients] 36)).alloc (.cells #[.bool h.request, .string h.method, .string h.target, .int .i64 h.minor, .int .i64 h.status, .string h.reason, fv] 27) = W1 at HB0 HG0 HC0 ⊢
  generalize w.heap.size + 1 = g at HG0 ⊢
  generalize w.heap.size = b at HB0 ⊢
  have HB := HB0
  have HG := HG0
  have HC := HC0
  clear HB0 HG0 HC0
  have HL0 := Lib.hid (cf_load HB.out)
  have HLG := Lib.hid (hd_load HG.out)
  go_wp2_with (first | refine wpList_load_row rfl 36 _ rfl ⟨b, 0, none⟩ _ rfl HL0.out ?_ | refine wpList_load_row rfl 27 _ rfl ⟨g, 0, none⟩ _ rfl HLG.out ?_ | refine wpList_load_want (by rfl) 27 _ rfl ⟨g, 0, none⟩ _ rfl HLG.out ?_)
  refine (find_any c _ _ ps h fv _ (Lib.hid (hE.out.chg HC.out)) (Lib.hid (hC.out.chg HC.out)) hS (Lib.hid (hfs.out.chg HC.out)) hhz).mono ?_
  rintro e W3 ⟨⟨i, er, hF, rfl⟩, H3⟩
  have HF := Lib.hid hF
  clear HL0 HLG hF
  have HB2 := Lib.hid (HB.out.chg H3.out (by simp))
  have HG2 := Lib.hid (HG.out.chg H3.out (by simp))
  have HC2 := Lib.hid (HC.out.trans H3.out (by simp))
  clear HB HC HG
  have HB := HB2
  have HC := HC2
  have HG := HG2
  clear HB2 HC2 HG2
  have HLG := Lib.hid (hd_load HG.out)
  go_wp2_with (first | refine wpList_load_row rfl 36 _ rfl ⟨b, 0, none⟩ _ rfl HL0.out ?_ | refine wpList_load_row rfl 27 _ rfl ⟨g, 0, none⟩ _ rfl HLG.out ?_ | refine wpList_load_want (by rfl) 27 _ rfl ⟨g, 0, none⟩ _ rfl HLG.out ?_)
  refine (place_any h fv _ (Lib.hid (hE.out.chg HC.out)) (Lib.hid (hfs.out.chg HC.out)) hhz).mono ?_
  rintro e W4 ⟨⟨r2, hr2, rfl⟩, H4⟩
  have HP2 := Lib.hid hr2
  have hsz := place_sz hr2 hhz.out
  clear HLG hr2
  have HB2 := Lib.hid (HB.out.chg H4.out (by simp))
  have HG2 := Lib.hid (HG.out.chg H4.out (by simp))
  have HC2 := Lib.hid (HC.out.trans H4.out (by simp))
  clear HB HC HG
  have HB := HB2
  have HC := HC2
  have HG := HG2
  clear HB2 HC2 HG2
  obtain ⟨ho, pa, f2⟩ := r2
  obtain ⟨hos, pas⟩ := hsz
  dsimp only at hos pas ⊢
  have HL0 := Lib.hid (cf_load HB.out)
  go_wp2_with (first | refine wpList_load_row rfl 36 _ rfl ⟨b, 0, none⟩ _ rfl HL0.out ?_ | refine wpList_load_row rfl 27 _ rfl ⟨g, 0, none⟩ _ rfl HLG.out ?_ | refine wpList_load_want (by rfl) 27 _ rfl ⟨g, 0, none⟩ _ rfl HLG.out ?_)
  refine (rcheck_any c _ _ ps _ (Lib.hid (hC.out.chg HC.out)) hS z HZ.out).mono ?_
  rintro e W5 ⟨rfl, H5⟩
  clear HL0
  have HB2 := Lib.hid (HB.out.chg H5.out (by simp))
  have HG2 := Lib.hid (HG.out.chg H5.out (by simp))
  have HC2 := Lib.hid (HC.out.trans H5.out (by simp))
  clear HB HC HG
  have HB := HB2
  have HC := HC2
  have HG := HG2
  clear HB2 HC2 HG2
  cases z
  · rcases HF.out with ⟨-, rfl, rfl⟩ | ⟨hz, -⟩
    · rw [show ok3 false = 3 from rfl]
      go_wp2_with fail
      refine (ospeaks_any _ (Lib.hid (hE.out.chg HC.out))).mono ?_
      rintro e W8 ⟨rfl, H8⟩
      go_wp2_with fail
      go_ret
      exact ⟨rfl, HC.out.trans H8.out (by simp)⟩
    · rw [HZ.out] at hz
      cases hz
  rw [show ok3 true = 0 from rfl]
  by_cases k1 : f2 = 0
  · have HD := Lib.hid (show (takK c.routes h ho pa c.routes.length = [] ∧ i = 0 ∧ er = 6) ∨ (∃ x l, takK c.routes h ho pa c.routes.length = x :: l ∧ i = (minF c.routes x l : Nat) ∧ er = 0) from by
      rcases HF.out with ⟨hz, -⟩ | ⟨-, r1, hp1, hq⟩
      · rw [HZ.out] at hz
        cases hz
      · rcases place_same hp1 HP2.out with rfl | ⟨-, n2⟩
        · rcases hq with ⟨n1, -⟩ | ⟨-, hq⟩
          · exact absurd k1 n1
          · exact hq
        · exact absurd k1 n2)
    subst k1
    clear HF
    have c1 := HB.out.cell 1 _ rfl
    go_wp2_with fail
    clear c1
    go_loopw [10, 46] (fun s i wr => ∃ k : Nat, i = .int .i64 k ∧ k ≤ c.routes.length ∧ s = .bool (!(takK c.routes h ho pa k).isEmpty) ∧ Hid (Chg [] W5 wr)) (fun _ i _ => c.routes.length - (intOf i).toNat)
    case atStart => exact ⟨0, rfl, by omega, rfl, Lib.hid (Chg.refl _ _)⟩
    case round =>
      obtain ⟨k, rfl, hk, rfl, HCk⟩ := hrel
      have HCr := Lib.hid (HC.out.trans HCk.out (by simp))
      by_cases hlt : k < c.routes.length
      · obtain ⟨r, hr⟩ : ∃ r, c.routes[k]? = some r := ⟨_, List.getElem?_eq_getElem hlt⟩
        obtain ⟨p, hp⟩ : ∃ p, ps[k]? = some p := ⟨_, List.getElem?_eq_getElem (by rw [hC.out.rs.len]; exact hlt)⟩
        have hrow : ((c.routes.zip ps).map (fun x => rtRow x.1 x.2.1 x.2.2))[k]? = some (rtRow r p.1 p.2) := by
          rw [List.getElem?_map, (List.getElem?_zip_eq_some (z := (r, p))).2 ⟨hr, hp⟩]
          rfl
        have HRA := Lib.hid (hC.out.rs.each k r p hr hp)
        have HTK := Lib.hid (emp_tak (h := h) (ho := ho) (pa := pa) hr)
        have HRS := Lib.hid (hS.out.rs r (List.mem_of_getElem? hr)).m
        obtain ⟨p1, p2⟩ := p
        dsimp only at HRA hrow
        obtain ⟨Am, cm, rfl⟩ := HRA.out.ms.form
        obtain ⟨Ah, ch, rfl⟩ := HRA.out.hs.form
        generalize hlm : (strRows r.m.methods).length = lm at *
        generalize hlh : (intRows r.hosts).length = lh at *
        clear hlm hlh
        obtain ⟨A3, cap3, e3, -, h3⟩ := hC.out.rs.tb
        injection e3 with e31 e32 e33
        subst e31
        obtain ⟨br, or, rfl, hbr, hx⟩ := h3 (by rw [HL2.out]; omega)
        have HLDr := Lib.hid (load_row 42 _ (rtRow r (.slice Am lm cm) (.slice Ah lh ch)) Tryz.underlying42 rfl (by kernel_rfl) (fun j x hj => HCr.out.cell (hx k _ hrow j x hj) (by simp)))
        have HST := Lib.hid (run_storeVar_new (P := Tryz.prog) wr 42 zeroRt (rtRow r (.slice Am lm cm) (.slice Ah lh ch)).toArray (by kernel_rfl) rfl (by simp [Value.oneCell', rtRow]))
        clear hx hrow hr hp h3 e32 e33 hbr
        go_upto_region 9 with (first | refine wpList_load_row rfl 42 _ rfl ⟨br, or + k * 21, none⟩ _ rfl HLDr.out ?_ | refine wpList_store_row rfl 42 _ _ rfl ⟨wr.heap.size, 0, none⟩ _ _ rfl rfl HST.out ?_)
        have HBL := Lib.hid (Blk.new wr (rtRow r (.slice Am lm cm) (.slice Ah lh ch)) 42)
        have HCz := Lib.hid (HCk.out.alloc (.cells (rtRow r (.slice Am lm cm) (.slice Ah lh ch)).toArray 42))
        generalize wr.alloc (.cells (rtRow r (.slice Am lm cm) (.slice Ah lh ch)).toArray 42) = Wz at HBL HCz ⊢
        generalize wr.heap.size = p at HBL ⊢
        have q0 := HBL.out.cell 0 _ rfl
        have q1 := HBL.out.cell 1 _ rfl
        have q2 := HBL.out.cell 2 _ rfl
        have q3 := HBL.out.cell 3 _ rfl
        have q4 := HBL.out.cell 4 _ rfl
        have HCw := Lib.hid (HC.out.trans HCz.out (by simp))
        have HLG := Lib.hid (hd_load (HG.out.chg HCz.out (by simp)))
        have HMS := Lib.hid (HRA.out.chg HCw.out).ms
        clear HLDr HST HBL HCk HCr HRA
        obtain ⟨acc, hacc⟩ : ∃ acc, (!(takK c.routes h ho pa k).isEmpty) = acc := ⟨_, rfl⟩
        rw [hacc] at HTK ⊢
        clear hacc
        cases acc
        · obtain ⟨t, ht⟩ : ∃ t, takesB r.m h ho pa = t := ⟨_, rfl⟩
          rw [ht] at HTK
          go_wp2_with (first | refine wpList_load_row rfl 36 _ rfl ⟨b, 0, none⟩ _ rfl HL0.out ?_ | refine wpList_load_row rfl 27 _ rfl ⟨g, 0, none⟩ _ rfl HLG.out ?_ | refine wpList_load_want (by rfl) 27 _ rfl ⟨g, 0, none⟩ _ rfl HLG.out ?_)
          refine (takesM_any r.m h (.slice Am lm cm) fv ho pa _ HMS (Lib.hid (hfs.out.chg HCw.out)) HRS hhz hos pas t ht).mono ?_
          rintro e W8 ⟨rfl, H8⟩
          have HN := Lib.hid (show (!(takK c.routes h ho pa (k + 1)).isEmpty) = t from HTK.out.trans (Bool.false_or t))
          clear ht q0 q1 q2 q3 q4
          go_wp2_with fail
          go_roundw
          case rel => exact ⟨k + 1, by go_num, by omega, by rw [HN.out], Lib.hid (HCz.out.trans H8.out (by simp))⟩
          case measure => simp [intOf]; omega
        · have HN := Lib.hid (show (!(takK c.routes h ho pa (k + 1)).isEmpty) = true from HTK.out.trans (Bool.true_or _))
          clear q0 q1 q2 q3 q4
          go_wp2_with fail
          go_roundw
          case rel => exact ⟨k + 1, by go_num, by omega, by rw [HN.out], HCz⟩
          case measure => simp [intOf]; omega
      · obtain rfl : k = c.routes.length := by omega
        have HB2 := Lib.hid (HB.out.chg HCk.out (by simp))
        have HG2 := Lib.hid (HG.out.chg HCk.out (by simp))
        clear HB HG HC HCk
        have HB := HB2
        have HG := HG2
        have HC := HCr
        clear HB2 HG2 HCr hk hlt
        generalize wr = Wn at *
        rcases HD.out with ⟨hl, rfl, rfl⟩ | ⟨x, l, hl, rfl, rfl⟩
        · rw [hl, show (!([] : List Nat).isEmpty) = false from rfl]
          clear hl
          go_wp2_with fail
          refine (ospeaks_any _ (Lib.hid (hE.out.chg HC.out))).mono ?_
          rintro e W8 ⟨rfl, H8⟩
          go_wp2_with fail
          go_ret
          exact ⟨rfl, HC.out.trans H8.out (by simp)⟩
        · rw [hl, show (!(x :: l).isEmpty) = true from rfl]
          obtain ⟨ri, hri, hti, hMl⟩ := best_in hl
          have HBL0 := Lib.hid (fun (k : Nat) (rk : Rt) (hk : c.routes[k]? = some rk) ht hh => best_law hl hk hri ht hh)
          have HTI := Lib.hid hti
          have HRI := Lib.hid hri
          generalize minF c.routes x l = M at *
          obtain ⟨Am, lm, cm, bk, o, cap3, he3, hcap3, htm, f0, f1, hlm⟩ := rt_load hC.out hri
          injection he3 with he31 he32 he33
          subst he31 he33
          have HTM := Lib.hid htm
          have HLM := Lib.hid hlm
          have HSM := Lib.hid (hS.out.rs ri (List.mem_of_getElem? hri)).m
          have hMi : (M : Int) < (c.routes.length : Int) := by omega
          clear he32 hcap3 htm hlm hl hti hri HD
          go_upto_region 13 with fail
          have HS := Lib.hid (show SB b g (cfRow c (.slice A c.hosts.length cap) (.slice (some ⟨bk, o, none⟩) c.routes.length cap2)) (hdRow h fv) w Wn.drew from ⟨HB.out.chg (Chg.refl [] _).drew (by simp), HG.out.chg (Chg.refl [] _).drew (by simp), HC.out.drew⟩)
          have HC2 := Lib.hid HC.out.drew
          clear HC HB HG
          have HC := HC2
          clear HC2
          refine wp_region_held_drew (S := fun W => Hid (SB b g (cfRow c (.slice A c.hosts.length cap) (.slice (some ⟨bk, o, none⟩) c.routes.length cap2)) (hdRow h fv) w W)) (by kernel_rfl) HS (fun hHeld => ?_)
          refine wpAnyH_take (i := 0) (oi := ?oir0) (v := (.int .i64 0)) ?hir0 (by kernel_rfl) (by kernel_rfl) (by kernel_rfl) ?hQr0 ?hyr0 hHeld ?restr0
          case hir0 =>
            simp only [List.getElem?_toArray, List.getElem?_cons_zero]
            rfl
          case hQr0 => exact fun _ _ _ h => h
          case hyr0 =>
            refine Or.inl ⟨by rfl, ?_⟩
            intro w hSw
            go_simp
          try simp only [Act.put, List.setIfInBounds_toArray, List.set_cons_zero, List.set_cons_succ]
          refine wpAnyH_take (i := 1) (oi := ?oir1) (v := (.bool false)) ?hir1 (by kernel_rfl) (by kernel_rfl) (by kernel_rfl) ?hQr1 ?hyr1 hHeld ?restr1
          case hir1 =>
            simp only [List.getElem?_toArray, List.getElem?_cons_succ, List.getElem?_cons_zero]
            rfl
          case hQr1 => exact fun _ _ _ h => h
          case hyr1 =>
            refine Or.inl ⟨by rfl, ?_⟩
            intro w hSw
            go_simp
          try simp only [Act.put, List.setIfInBounds_toArray, List.set_cons_zero, List.set_cons_succ]
          refine wpAnyH_take (i := 2) (oi := ?oir2) (v := (.bool false)) ?hir2 (by kernel_rfl) (by kernel_rfl) (by kernel_rfl) ?hQr2 ?hyr2 hHeld ?restr2
          case hir2 =>
            simp only [List.getElem?_toArray, List.getElem?_cons_succ, List.getElem?_cons_zero]
            rfl
          case hQr2 => exact fun _ _ _ h => h
          case hyr2 =>
            refine Or.inl ⟨by rfl, ?_⟩
            intro w hSw
            go_simp
          try simp only [Act.put, List.setIfInBounds_toArray, List.set_cons_zero, List.set_cons_succ]
          refine wpAnyH_take (i := 3) (oi := ?oir3) (v := (.int .i64 (M : Int))) ?hir3 (by kernel_rfl) (by kernel_rfl) (by kernel_rfl) ?hQr3 ?hyr3 hHeld ?restr3
          case hir3 =>
            simp only [List.getElem?_toArray, List.getElem?_cons_succ, List.getElem?_cons_zero]
            rfl
          case hQr3 => exact fun _ _ _ h => h
          case hyr3 =>
            refine Or.inl ⟨by rfl, ?_⟩
            intro w hSw
            go_simp
          try simp only [Act.put, List.setIfInBounds_toArray, List.set_cons_zero, List.set_cons_succ]
          refine wpAnyH_take (i := 4) (oi := ?oir4) (v := (.bool false)) ?hir4 (by kernel_rfl) (by kernel_rfl) (by kernel_rfl) ?hQr4 ?hyr4 hHeld ?restr4
          case hir4 =>
            simp only [List.getElem?_toArray, List.getElem?_cons_succ, List.getElem?_cons_zero]
            rfl
          case hQr4 => exact fun _ _ _ h => h
          case hyr4 =>
            refine Or.inl ⟨by rfl, ?_⟩
            intro w hSw
            go_simp
          try simp only [Act.put, List.setIfInBounds_toArray, List.set_cons_zero, List.set_cons_succ]
          refine wpAnyH_take (i := 5) (oi := ?oir5) (v := (.bool false)) ?hir5 (by kernel_rfl) (by kernel_rfl) (by kernel_rfl) ?hQr5 ?hyr5 hHeld ?restr5
          case hir5 =>
            simp only [List.getElem?_toArray, List.getElem?_cons_succ, List.getElem?_cons_zero]
            rfl
          case hQr5 => exact fun _ _ _ h => h
          case hyr5 =>
            refine Or.inl ⟨by rfl, ?_⟩
            intro w hSw
            go_simp
          try simp only [Act.put, List.setIfInBounds_toArray, List.set_cons_zero, List.set_cons_succ]
          refine wpAnyH_take (i := 6) (oi := ?oir6) (v := (.bool false)) ?hir6 (by kernel_rfl) (by kernel_rfl) (by kernel_rfl) ?hQr6 ?hyr6 hHeld ?restr6
          case hir6 =>
            simp only [List.getElem?_toArray, List.getElem?_cons_succ, List.getElem?_cons_zero]
            rfl
          case hQr6 => exact fun _ _ _ h => h
          case hyr6 =>
            refine Or.inl ⟨by rfl, ?_⟩
            intro w hSw
            go_simp
          try simp only [Act.put, List.setIfInBounds_toArray, List.set_cons_zero, List.set_cons_succ]
          refine wpAnyH_take (i := 7) (oi := ?oir7) (v := (.int .i64 (M : Int))) ?hir7 (by kernel_rfl) (by kernel_rfl) (by kernel_rfl) ?hQr7 ?hyr7 hHeld ?restr7
          case hir7 =>
            simp only [List.getElem?_toArray, List.getElem?_cons_succ, List.getElem?_cons_zero]
            rfl
          case hQr7 => exact fun _ _ _ h => h
          case hyr7 =>
            refine Or.inl ⟨by rfl, ?_⟩
            intro w hSw
            go_simp
          try simp only [Act.put, List.setIfInBounds_toArray, List.set_cons_zero, List.set_cons_succ]
          refine wpAnyH_take (i := 8) (oi := ?oir8) (v := (.pointer (some ⟨b, 1, none⟩))) ?hir8 (by kernel_rfl) (by kernel_rfl) (by kernel_rfl) ?hQr8 ?hyr8 hHeld ?restr8
          case hir8 =>
            simp only [List.getElem?_toArray, List.getElem?_cons_succ, List.getElem?_cons_zero]
            rfl
          case hQr8 => exact fun _ _ _ h => h
          case hyr8 =>
            refine Or.inl ⟨by rfl, ?_⟩
            intro w hSw
            go_simp
          try simp only [Act.put, List.setIfInBounds_toArray, List.set_cons_zero, List.set_cons_succ]
          refine wpAnyH_take (i := 9) (oi := ?oir9) (v := (.slice (some ⟨bk, o, none⟩) c.routes.length cap2)) ?hir9 (by kernel_rfl) (by kernel_rfl) (by kernel_rfl) ?hQr9 ?hyr9 hHeld ?restr9
          case hir9 =>
            simp only [List.getElem?_toArray, List.getElem?_cons_succ, List.getElem?_cons_zero]
            rfl
          case hQr9 => exact fun _ _ _ h => h
          case hyr9 =>
            refine Or.inl ⟨by rfl, ?_⟩
            intro w hSw
            have hcc := hSw.out.cb.cell 1 _ rfl
            go_simp
          try simp only [Act.put, List.setIfInBounds_toArray, List.set_cons_zero, List.set_cons_succ]
          refine wpAnyH_take (i := 10) (oi := ?oir10) (v := (.int .i64 (c.routes.length : Int))) ?hir10 (by kernel_rfl) (by kernel_rfl) (by kernel_rfl) ?hQr10 ?hyr10 hHeld ?restr10
          case hir10 =>
            simp only [List.getElem?_toArray, List.getElem?_cons_succ, List.getElem?_cons_zero]
            rfl
          case hQr10 => exact fun _ _ _ h => h
          case hyr10 =>
            refine Or.inl ⟨by rfl, ?_⟩
            intro w hSw
            go_simp
          try simp only [Act.put, List.setIfInBounds_toArray, List.set_cons_zero, List.set_cons_succ]
          refine wpAnyH_take (i := 11) (oi := ?oir11) (v := (.bool false)) ?hir11 (by kernel_rfl) (by kernel_rfl) (by kernel_rfl) ?hQr11 ?hyr11 hHeld ?restr11
          case hir11 =>
            simp only [List.getElem?_toArray, List.getElem?_cons_succ, List.getElem?_cons_zero]
            rfl
          case hQr11 => exact fun _ _ _ h => h
          case hyr11 =>
            refine Or.inl ⟨by rfl, ?_⟩
            intro w hSw
            go_simp
          try simp only [Act.put, List.setIfInBounds_toArray, List.set_cons_zero, List.set_cons_succ]
          refine wpAnyH_take (i := 12) (oi := ?oir12) (v := (.bool false)) ?hir12 (by kernel_rfl) (by kernel_rfl) (by kernel_rfl) ?hQr12 ?hyr12 hHeld ?restr12
          case hir12 =>
            simp only [List.getElem?_toArray, List.getElem?_cons_succ, List.getElem?_cons_zero]
            rfl
          case hQr12 => exact fun _ _ _ h => h
          case hyr12 =>
            refine Or.inl ⟨by rfl, ?_⟩
            intro w hSw
            go_simp
          try simp only [Act.put, List.setIfInBounds_toArray, List.set_cons_zero, List.set_cons_succ]
          refine wpAnyH_take (i := 13) (oi := ?oir13) (v := (.bool false)) ?hir13 (by kernel_rfl) (by kernel_rfl) (by kernel_rfl) ?hQr13 ?hyr13 hHeld ?restr13
          case hir13 =>
            simp only [List.getElem?_toArray, List.getElem?_cons_succ, List.getElem?_cons_zero]
            rfl
          case hQr13 => exact fun _ _ _ h => h
          case hyr13 =>
            refine Or.inl ⟨by rfl, ?_⟩
            intro w hSw
            go_simp
          try simp only [Act.put, List.setIfInBounds_toArray, List.set_cons_zero, List.set_cons_succ]
          refine wpAnyH_take (i := 14) (oi := ?oir14) (v := (.pointer (some ⟨b, 1, none⟩))) ?hir14 (by kernel_rfl) (by kernel_rfl) (by kernel_rfl) ?hQr14 ?hyr14 hHeld ?restr14
          case hir14 =>
            simp only [List.getElem?_toArray, List.getElem?_cons_succ, List.getElem?_cons_zero]
            rfl
          case hQr14 => exact fun _ _ _ h => h
          case hyr14 =>
            refine Or.inl ⟨by rfl, ?_⟩
            intro w hSw
            go_simp
          try simp only [Act.put, List.setIfInBounds_toArray, List.set_cons_zero, List.set_cons_succ]
          refine wpAnyH_take (i := 15) (oi := ?oir15) (v := (.slice (some ⟨bk, o, none⟩) c.routes.length cap2)) ?hir15 (by kernel_rfl) (by kernel_rfl) (by kernel_rfl) ?hQr15 ?hyr15 hHeld ?restr15
          case hir15 =>
            simp only [List.getElem?_toArray, List.getElem?_cons_succ, List.getElem?_cons_zero]
            rfl
          case hQr15 => exact fun _ _ _ h => h
          case hyr15 =>
            refine Or.inl ⟨by rfl, ?_⟩
            intro w hSw
            have hcc := hSw.out.cb.cell 1 _ rfl
            go_simp
          try simp only [Act.put, List.setIfInBounds_toArray, List.set_cons_zero, List.set_cons_succ]
          refine wpAnyH_take (i := 16) (oi := ?oir16) (v := (.int .i64 (M : Int))) ?hir16 (by kernel_rfl) (by kernel_rfl) (by kernel_rfl) ?hQr16 ?hyr16 hHeld ?restr16
          case hir16 =>
            simp only [List.getElem?_toArray, List.getElem?_cons_succ, List.getElem?_cons_zero]
            rfl
          case hQr16 => exact fun _ _ _ h => h
          case hyr16 =>
            refine Or.inl ⟨by rfl, ?_⟩
            intro w hSw
            go_simp
          try simp only [Act.put, List.setIfInBounds_toArray, List.set_cons_zero, List.set_cons_succ]
          refine wpAnyH_take (i := 17) (oi := ?oir17) (v := (.pointer (some ⟨bk, o + M * 21, none⟩))) ?hir17 (by kernel_rfl) (by kernel_rfl) (by kernel_rfl) ?hQr17 ?hyr17 hHeld ?restr17
          case hir17 =>
            simp only [List.getElem?_toArray, List.getElem?_cons_succ, List.getElem?_cons_zero]
            rfl
          case hQr17 => exact fun _ _ _ h => h
          case hyr17 =>
            refine Or.inl ⟨by rfl, ?_⟩
            intro w hSw
            go_simp
          try simp only [Act.put, List.setIfInBounds_toArray, List.set_cons_zero, List.set_cons_succ]
          refine wpAnyH_take (i := 18) (oi := ?oir18) (v := (.pointer (some ⟨bk, o + M * 21, none⟩))) ?hir18 (by kernel_rfl) (by kernel_rfl) (by kernel_rfl) ?hQr18 ?hyr18 hHeld ?restr18
          case hir18 =>
            simp only [List.getElem?_toArray, List.getElem?_cons_succ, List.getElem?_cons_zero]
            rfl
          case hQr18 => exact fun _ _ _ h => h
          case hyr18 =>
            refine Or.inl ⟨by rfl, ?_⟩
            intro w hSw
            go_simp
          try simp only [Act.put, List.setIfInBounds_toArray, List.set_cons_zero, List.set_cons_succ]
          refine wpAnyH_take (i := 19) (oi := ?oir19) (v := .agg (maRow ri.m (.slice Am lm cm)).toArray) ?hir19 (by kernel_rfl) (by kernel_rfl) (by kernel_rfl) ?hQr19 ?hyr19 hHeld ?restr19
          case hir19 =>
            simp only [List.getElem?_toArray, List.getElem?_cons_succ, List.getElem?_cons_zero]
            rfl
          case hQr19 => exact fun _ _ _ h => h
          case hyr19 =>
            exact yields_row (by rfl) 24 _ rfl ⟨bk, o + M * 21, none⟩ _ rfl (fun w hSw => HLM.out _ hSw.out.ch)
          try simp only [Act.put, List.setIfInBounds_toArray, List.set_cons_zero, List.set_cons_succ]
          refine wpAnyH_take (i := 20) (oi := ?oir20) (v := .agg (hdRow h fv).toArray) ?hir20 (by kernel_rfl) (by kernel_rfl) (by kernel_rfl) ?hQr20 ?hyr20 hHeld ?restr20
          case hir20 =>
            simp only [List.getElem?_toArray, List.getElem?_cons_succ, List.getElem?_cons_zero]
            rfl
          case hQr20 => exact fun _ _ _ h => h
          case hyr20 =>
            exact yields_row (by rfl) 27 _ rfl ⟨g, 0, none⟩ _ rfl (fun w hSw => hd_load hSw.out.hb)
          try simp only [Act.put, List.setIfInBounds_toArray, List.set_cons_zero, List.set_cons_succ]
          refine wpAnyH_take (i := 21) (oi := ?oir21) (v := (.string ho)) ?hir21 (by kernel_rfl) (by kernel_rfl) (by kernel_rfl) ?hQr21 ?hyr21 hHeld ?restr21
          case hir21 =>
            simp only [List.getElem?_toArray, List.getElem?_cons_succ, List.getElem?_cons_zero]
            rfl
          case hQr21 => exact fun _ _ _ h => h
          case hyr21 =>
            refine Or.inl ⟨by rfl, ?_⟩
            intro w hSw
            go_simp
          try simp only [Act.put, List.setIfInBounds_toArray, List.set_cons_zero, List.set_cons_succ]
          refine wpAnyH_take (i := 22) (oi := ?oir22) (v := (.string pa)) ?hir22 (by kernel_rfl) (by kernel_rfl) (by kernel_rfl) ?hQr22 ?hyr22 hHeld ?restr22
          case hir22 =>
            simp only [List.getElem?_toArray, List.getElem?_cons_succ, List.getElem?_cons_zero]
            rfl
          case hQr22 => exact fun _ _ _ h => h
          case hyr22 =>
            refine Or.inl ⟨by rfl, ?_⟩
            intro w hSw
            go_simp
          try simp only [Act.put, List.setIfInBounds_toArray, List.set_cons_zero, List.set_cons_succ]
          refine wpAnyH_ready (rs := [23]) (by kernel_rfl) (by simp) ?_
          refine AllReadyH.cons rfl (fun K hK => ?_) AllReadyH.nil
          go_simp
          refine (takesM_any ri.m h (.slice Am lm cm) fv ho pa _ (Lib.hid (HTM.out.chg HC.out)) (Lib.hid (hfs.out.chg HC.out)) HSM hhz hos pas true HTI.out).mono ?_
          rintro e w3 ⟨rfl, H3⟩
          have HC3 := Lib.hid (HC.out.trans H3.out (by simp))
          have HS3 := Lib.hid (HS.out.chg H3.out)
          clear HC HS
          have HC := HC3
          have HS := HS3
          clear HC3 HS3
          go_wp2_with fail
          refine hK.out _ _ HS (fun hHeld => ?_)
          clear hK K
          try simp only [Act.put, List.setIfInBounds_toArray, List.set_cons_zero, List.set_cons_succ]
          refine wpAnyH_take (i := 24) (oi := ?oir24) (v := (.bool false)) ?hir24 (by kernel_rfl) (by kernel_rfl) (by kernel_rfl) ?hQr24 ?hyr24 hHeld ?restr24
          case hir24 =>
            simp only [List.getElem?_toArray, List.getElem?_cons_succ, List.getElem?_cons_zero]
            rfl
          case hQr24 => exact fun _ _ _ h => h
          case hyr24 =>
            refine Or.inl ⟨by rfl, ?_⟩
            intro w hSw
            go_simp
          try simp only [Act.put, List.setIfInBounds_toArray, List.set_cons_zero, List.set_cons_succ]
          refine wpAnyH_take (i := 25) (oi := ?oir25) (v := (.bool false)) ?hir25 (by kernel_rfl) (by kernel_rfl) (by kernel_rfl) ?hQr25 ?hyr25 hHeld ?restr25
          case hir25 =>
            simp only [List.getElem?_toArray, List.getElem?_cons_succ, List.getElem?_cons_zero]
            rfl
          case hQr25 => exact fun _ _ _ h => h
          case hyr25 =>
            refine Or.inl ⟨by rfl, ?_⟩
            intro w hSw
            go_simp
          try simp only [Act.put, List.setIfInBounds_toArray, List.set_cons_zero, List.set_cons_succ]
          refine wpAnyH_done (by kernel_rfl) ?_ _
          have HB := Lib.hid HS.out.cb
          have HG := Lib.hid HS.out.hb
          clear HS hHeld
          generalize w3 = Wo at *
          have c1 := HB.out.cell 1 _ rfl
          go_wp2_with fail
          clear c1
          have HS0 := Lib.hid (show SB b g (cfRow c (.slice A c.hosts.length cap) (.slice (some ⟨bk, o, none⟩) c.routes.length cap2)) (hdRow h fv) w Wo from ⟨HB.out, HG.out, HC.out⟩)
          clear HB HG HC
          go_loopw [100] (fun i wr => ∃ k : Nat, i = .int .i64 k ∧ k ≤ c.routes.length ∧ Hid (SB b g (cfRow c (.slice A c.hosts.length cap) (.slice (some ⟨bk, o, none⟩) c.routes.length cap2)) (hdRow h fv) w wr)) (fun i _ => c.routes.length - (intOf i).toNat)
          case atStart => exact ⟨0, rfl, by omega, HS0⟩
          case round =>
            obtain ⟨k, rfl, hk, HSB⟩ := hrel
            by_cases hlt : k < c.routes.length
            · have HCr := Lib.hid HSB.out.ch
              obtain ⟨r, hr⟩ : ∃ r, c.routes[k]? = some r := ⟨_, List.getElem?_eq_getElem hlt⟩
              obtain ⟨p, hp⟩ : ∃ p, ps[k]? = some p := ⟨_, List.getElem?_eq_getElem (by rw [hC.out.rs.len]; exact hlt)⟩
              have hrow : ((c.routes.zip ps).map (fun x => rtRow x.1 x.2.1 x.2.2))[k]? = some (rtRow r p.1 p.2) := by
                rw [List.getElem?_map, (List.getElem?_zip_eq_some (z := (r, p))).2 ⟨hr, hp⟩]
                rfl
              have HRA := Lib.hid (hC.out.rs.each k r p hr hp)
              have HRR := Lib.hid hr
              have HRS := Lib.hid (hS.out.rs r (List.mem_of_getElem? hr)).m
              obtain ⟨p1, p2⟩ := p
              dsimp only at HRA hrow
              obtain ⟨An, cn, rfl⟩ := HRA.out.ms.form
              obtain ⟨Ao, co, rfl⟩ := HRA.out.hs.form
              generalize hlm : (strRows r.m.methods).length = ln at *
              generalize hlh : (intRows r.hosts).length = lo at *
              clear hlm hlh
              obtain ⟨A9, cap9, e9, -, h3⟩ := hC.out.rs.tb
              injection e9 with e91 e92 e93
              subst e91
              obtain ⟨br, or, hbo, hbr, hx⟩ := h3 (by rw [HL2.out]; omega)
              injection hbo with hbo
              injection hbo with hb1 hb2
              subst hb1 hb2
              have HLDr := Lib.hid (load_row 42 _ (rtRow r (.slice An ln cn) (.slice Ao lo co)) Tryz.underlying42 rfl (by kernel_rfl) (fun j x hj => HCr.out.cell (hx k _ hrow j x hj) (by simp)))
              have HST := Lib.hid (run_storeVar_new (P := Tryz.prog) wr 42 zeroRt (rtRow r (.slice An ln cn) (.slice Ao lo co)).toArray (by kernel_rfl) rfl (by simp [Value.oneCell', rtRow]))
              clear hx hrow hr hp h3 e92 e93 hbr
              go_upto_region 18 with (first | refine wpList_load_row rfl 42 _ rfl ⟨bk, o + k * 21, none⟩ _ rfl HLDr.out ?_ | refine wpList_store_row rfl 42 _ _ rfl ⟨wr.heap.size, 0, none⟩ _ _ rfl rfl HST.out ?_)
              have HSZ := Lib.hid (show SP b g wr.heap.size (cfRow c (.slice A c.hosts.length cap) (.slice (some ⟨bk, o, none⟩) c.routes.length cap2)) (hdRow h fv) (rtRow r (.slice An ln cn) (.slice Ao lo co)) w (wr.alloc (.cells (rtRow r (.slice An ln cn) (.slice Ao lo co)).toArray 42)) from ⟨HSB.out.cb.alloc _, HSB.out.hb.alloc _, Blk.new wr _ 42, HSB.out.ch.alloc _⟩)
              have HMS2 := Lib.hid HRA.out.ms
              generalize wr.alloc (.cells (rtRow r (.slice An ln cn) (.slice Ao lo co)).toArray 42) = Wz at HSZ ⊢
              generalize wr.heap.size = p at HSZ ⊢
              have HTR := HMS2
              have HS := Lib.hid (show SP b g p (cfRow c (.slice A c.hosts.length cap) (.slice (some ⟨bk, o, none⟩) c.routes.length cap2)) (hdRow h fv) (rtRow r (.slice An ln cn) (.slice Ao lo co)) w Wz.drew from HSZ.out.chg (Chg.refl [] _).drew)
              have HC := Lib.hid HS.out.ch
              clear HLDr HST HCr HRA HSB HSZ
              obtain ⟨t, ht⟩ : ∃ t, takesB r.m h ho pa = t := ⟨_, rfl⟩
              have HT := Lib.hid ht
              have HBQ := Lib.hid (HBL0.out k r HRR.out)
              clear ht
              cases t
              · refine wp_region_held_drew (S := fun W => Hid (SP b g p (cfRow c (.slice A c.hosts.length cap) (.slice (some ⟨bk, o, none⟩) c.routes.length cap2)) (hdRow h fv) (rtRow r (.slice An ln cn) (.slice Ao lo co)) w W)) (by kernel_rfl) HS (fun hHeld => ?_)
                refine wpAnyH_take (i := 0) (oi := ?oiA0) (v := (.pointer (some ⟨p, 0, none⟩))) ?hiA0 (by kernel_rfl) (by kernel_rfl) (by kernel_rfl) ?hQA0 ?hyA0 hHeld ?restA0
                case hiA0 =>
                  simp only [List.getElem?_toArray, List.getElem?_cons_zero]
                  rfl
                case hQA0 => exact fun _ _ _ h => h
                case hyA0 =>
                  refine Or.inl ⟨by rfl, ?_⟩
                  intro w hSw
                  go_simp
                try simp only [Act.put, List.setIfInBounds_toArray, List.set_cons_zero, List.set_cons_succ]
                refine wpAnyH_take (i := 1) (oi := ?oiA1) (v := .agg (maRow r.m (.slice An ln cn)).toArray) ?hiA1 (by kernel_rfl) (by kernel_rfl) (by kernel_rfl) ?hQA1 ?hyA1 hHeld ?restA1
                case hiA1 =>
                  simp only [List.getElem?_toArray, List.getElem?_cons_succ, List.getElem?_cons_zero]
                  rfl
                case hQA1 => exact fun _ _ _ h => h
                case hyA1 =>
                  exact yields_row (by rfl) 24 _ rfl ⟨p, 0, none⟩ _ rfl (fun w hSw => mt_load hSw.out.pb)
                try simp only [Act.put, List.setIfInBounds_toArray, List.set_cons_zero, List.set_cons_succ]
                refine wpAnyH_take (i := 2) (oi := ?oiA2) (v := .agg (hdRow h fv).toArray) ?hiA2 (by kernel_rfl) (by kernel_rfl) (by kernel_rfl) ?hQA2 ?hyA2 hHeld ?restA2
                case hiA2 =>
                  simp only [List.getElem?_toArray, List.getElem?_cons_succ, List.getElem?_cons_zero]
                  rfl
                case hQA2 => exact fun _ _ _ h => h
                case hyA2 =>
                  exact yields_row (by rfl) 27 _ rfl ⟨g, 0, none⟩ _ rfl (fun w hSw => hd_load hSw.out.hb)
                try simp only [Act.put, List.setIfInBounds_toArray, List.set_cons_zero, List.set_cons_succ]
                refine wpAnyH_take (i := 3) (oi := ?oiA3) (v := (.string ho)) ?hiA3 (by kernel_rfl) (by kernel_rfl) (by kernel_rfl) ?hQA3 ?hyA3 hHeld ?restA3
                case hiA3 =>
                  simp only [List.getElem?_toArray, List.getElem?_cons_succ, List.getElem?_cons_zero]
                  rfl
                case hQA3 => exact fun _ _ _ h => h
                case hyA3 =>
                  refine Or.inl ⟨by rfl, ?_⟩
                  intro w hSw
                  go_simp
                try simp only [Act.put, List.setIfInBounds_toArray, List.set_cons_zero, List.set_cons_succ]
                refine wpAnyH_take (i := 4) (oi := ?oiA4) (v := (.string pa)) ?hiA4 (by kernel_rfl) (by kernel_rfl) (by kernel_rfl) ?hQA4 ?hyA4 hHeld ?restA4
                case hiA4 =>
                  simp only [List.getElem?_toArray, List.getElem?_cons_succ, List.getElem?_cons_zero]
                  rfl
                case hQA4 => exact fun _ _ _ h => h
                case hyA4 =>
                  refine Or.inl ⟨by rfl, ?_⟩
                  intro w hSw
                  go_simp
                try simp only [Act.put, List.setIfInBounds_toArray, List.set_cons_zero, List.set_cons_succ]
                refine wpAnyH_ready (rs := [5]) (by kernel_rfl) (by simp) ?_
                refine AllReadyH.cons rfl (fun K hK => ?_) AllReadyH.nil
                go_simp
                refine (takesM_any r.m h (.slice An ln cn) fv ho pa _ (Lib.hid (HTR.out.chg HC.out)) (Lib.hid (hfs.out.chg HC.out)) HRS hhz hos pas false HT.out).mono ?_
                rintro e w3 ⟨rfl, H3⟩
                have HC3 := Lib.hid (HC.out.trans H3.out (by simp))
                have HS3 := Lib.hid (HS.out.chg H3.out)
                clear HC HS
                have HC := HC3
                have HS := HS3
                clear HC3 HS3
                go_wp2_with fail
                refine hK.out _ _ HS (fun hHeld => ?_)
                clear hK K
                try simp only [Act.put, List.setIfInBounds_toArray, List.set_cons_zero, List.set_cons_succ]
                refine wpAnyH_take (i := 6) (oi := ?oiA6) (v := (.bool false)) ?hiA6 (by kernel_rfl) (by kernel_rfl) (by kernel_rfl) ?hQA6 ?hyA6 hHeld ?restA6
                case hiA6 =>
                  simp only [List.getElem?_toArray, List.getElem?_cons_succ, List.getElem?_cons_zero]
                  rfl
                case hQA6 => exact fun _ _ _ h => h
                case hyA6 =>
                  refine Or.inl ⟨by rfl, ?_⟩
                  intro w hSw
                  go_simp
                try simp only [Act.put, List.setIfInBounds_toArray, List.set_cons_zero, List.set_cons_succ]
                refine wpAnyH_take (i := 7) (oi := ?oiA7) (v := undef) ?hiA7 (by kernel_rfl) (by kernel_rfl) (by kernel_rfl) ?hQA7 ?hyA7 hHeld ?restA7
                case hiA7 =>
                  simp only [List.getElem?_toArray, List.getElem?_cons_succ, List.getElem?_cons_zero]
                  rfl
                case hQA7 => exact fun _ _ _ h => h
                case hyA7 =>
                  exact Or.inr ⟨by rfl, rfl⟩
                try simp only [Act.put, List.setIfInBounds_toArray, List.set_cons_zero, List.set_cons_succ]
                refine wpAnyH_take (i := 8) (oi := ?oiA8) (v := undef) ?hiA8 (by kernel_rfl) (by kernel_rfl) (by kernel_rfl) ?hQA8 ?hyA8 hHeld ?restA8
                case hiA8 =>
                  simp only [List.getElem?_toArray, List.getElem?_cons_succ, List.getElem?_cons_zero]
                  rfl
                case hQA8 => exact fun _ _ _ h => h
                case hyA8 =>
                  exact Or.inr ⟨by rfl, rfl⟩
                try simp only [Act.put, List.setIfInBounds_toArray, List.set_cons_zero, List.set_cons_succ]
                refine wpAnyH_take (i := 9) (oi := ?oiA9) (v := undef) ?hiA9 (by kernel_rfl) (by kernel_rfl) (by kernel_rfl) ?hQA9 ?hyA9 hHeld ?restA9
                case hiA9 =>
                  simp only [List.getElem?_toArray, List.getElem?_cons_succ, List.getElem?_cons_zero]
                  rfl
                case hQA9 => exact fun _ _ _ h => h
                case hyA9 =>
                  exact Or.inr ⟨by rfl, rfl⟩
                try simp only [Act.put, List.setIfInBounds_toArray, List.set_cons_zero, List.set_cons_succ]
                refine wpAnyH_take (i := 10) (oi := ?oiA10) (v := undef) ?hiA10 (by kernel_rfl) (by kernel_rfl) (by kernel_rfl) ?hQA10 ?hyA10 hHeld ?restA10
                case hiA10 =>
                  simp only [List.getElem?_toArray, List.getElem?_cons_succ, List.getElem?_cons_zero]
                  rfl
                case hQA10 => exact fun _ _ _ h => h
                case hyA10 =>
                  exact Or.inr ⟨by rfl, rfl⟩
                try simp only [Act.put, List.setIfInBounds_toArray, List.set_cons_zero, List.set_cons_succ]
                refine wpAnyH_take (i := 11) (oi := ?oiA11) (v := undef) ?hiA11 (by kernel_rfl) (by kernel_rfl) (by kernel_rfl) ?hQA11 ?hyA11 hHeld ?restA11
                case hiA11 =>
                  simp only [List.getElem?_toArray, List.getElem?_cons_succ, List.getElem?_cons_zero]
                  rfl
                case hQA11 => exact fun _ _ _ h => h
                case hyA11 =>
                  exact Or.inr ⟨by rfl, rfl⟩
                try simp only [Act.put, List.setIfInBounds_toArray, List.set_cons_zero, List.set_cons_succ]
                refine wpAnyH_take (i := 12) (oi := ?oiA12) (v := undef) ?hiA12 (by kernel_rfl) (by kernel_rfl) (by kernel_rfl) ?hQA12 ?hyA12 hHeld ?restA12
                case hiA12 =>
                  simp only [List.getElem?_toArray, List.getElem?_cons_succ, List.getElem?_cons_zero]
                  rfl
                case hQA12 => exact fun _ _ _ h => h
                case hyA12 =>
                  exact Or.inr ⟨by rfl, rfl⟩
                try simp only [Act.put, List.setIfInBounds_toArray, List.set_cons_zero, List.set_cons_succ]
                refine wpAnyH_take (i := 13) (oi := ?oiA13) (v := undef) ?hiA13 (by kernel_rfl) (by kernel_rfl) (by kernel_rfl) ?hQA13 ?hyA13 hHeld ?restA13
                case hiA13 =>
                  simp only [List.getElem?_toArray, List.getElem?_cons_succ, List.getElem?_cons_zero]
                  rfl
                case hQA13 => exact fun _ _ _ h => h
                case hyA13 =>
                  exact Or.inr ⟨by rfl, rfl⟩
                try simp only [Act.put, List.setIfInBounds_toArray, List.set_cons_zero, List.set_cons_succ]
                refine wpAnyH_take (i := 14) (oi := ?oiA14) (v := undef) ?hiA14 (by kernel_rfl) (by kernel_rfl) (by kernel_rfl) ?hQA14 ?hyA14 hHeld ?restA14
                case hiA14 =>
                  simp only [List.getElem?_toArray, List.getElem?_cons_succ, List.getElem?_cons_zero]
                  rfl
                case hQA14 => exact fun _ _ _ h => h
                case hyA14 =>
                  exact Or.inr ⟨by rfl, rfl⟩
                try simp only [Act.put, List.setIfInBounds_toArray, List.set_cons_zero, List.set_cons_succ]
                refine wpAnyH_take (i := 15) (oi := ?oiA15) (v := undef) ?hiA15 (by kernel_rfl) (by kernel_rfl) (by kernel_rfl) ?hQA15 ?hyA15 hHeld ?restA15
                case hiA15 =>
                  simp only [List.getElem?_toArray, List.getElem?_cons_succ, List.getElem?_cons_zero]
                  rfl
                case hQA15 => exact fun _ _ _ h => h
                case hyA15 =>
                  exact Or.inr ⟨by rfl, rfl⟩
                try simp only [Act.put, List.setIfInBounds_toArray, List.set_cons_zero, List.set_cons_succ]
                refine wpAnyH_take (i := 16) (oi := ?oiA16) (v := undef) ?hiA16 (by kernel_rfl) (by kernel_rfl) (by kernel_rfl) ?hQA16 ?hyA16 hHeld ?restA16
                case hiA16 =>
                  simp only [List.getElem?_toArray, List.getElem?_cons_succ, List.getElem?_cons_zero]
                  rfl
                case hQA16 => exact fun _ _ _ h => h
                case hyA16 =>
                  exact Or.inr ⟨by rfl, rfl⟩
                try simp only [Act.put, List.setIfInBounds_toArray, List.set_cons_zero, List.set_cons_succ]
                refine wpAnyH_take (i := 17) (oi := ?oiA17) (v := undef) ?hiA17 (by kernel_rfl) (by kernel_rfl) (by kernel_rfl) ?hQA17 ?hyA17 hHeld ?restA17
                case hiA17 =>
                  simp only [List.getElem?_toArray, List.getElem?_cons_succ, List.getElem?_cons_zero]
                  rfl
                case hQA17 => exact fun _ _ _ h => h
                case hyA17 =>
                  exact Or.inr ⟨by rfl, rfl⟩
                try simp only [Act.put, List.setIfInBounds_toArray, List.set_cons_zero, List.set_cons_succ]
                refine wpAnyH_take (i := 18) (oi := ?oiA18) (v := (.bool false)) ?hiA18 (by kernel_rfl) (by kernel_rfl) (by kernel_rfl) ?hQA18 ?hyA18 hHeld ?restA18
                case hiA18 =>
                  simp only [List.getElem?_toArray, List.getElem?_cons_succ, List.getElem?_cons_zero]
                  rfl
                case hQA18 => exact fun _ _ _ h => h
                case hyA18 =>
                  refine Or.inl ⟨by rfl, ?_⟩
                  intro w hSw
                  go_simp
                try simp only [Act.put, List.setIfInBounds_toArray, List.set_cons_zero, List.set_cons_succ]
                refine wpAnyH_take (i := 19) (oi := ?oiA19) (v := (.bool false)) ?hiA19 (by kernel_rfl) (by kernel_rfl) (by kernel_rfl) ?hQA19 ?hyA19 hHeld ?restA19
                case hiA19 =>
                  simp only [List.getElem?_toArray, List.getElem?_cons_succ, List.getElem?_cons_zero]
                  rfl
                case hQA19 => exact fun _ _ _ h => h
                case hyA19 =>
                  refine Or.inl ⟨by rfl, ?_⟩
                  intro w hSw
                  go_simp
                try simp only [Act.put, List.setIfInBounds_toArray, List.set_cons_zero, List.set_cons_succ]
                refine wpAnyH_take (i := 20) (oi := ?oiA20) (v := undef) ?hiA20 (by kernel_rfl) (by kernel_rfl) (by kernel_rfl) ?hQA20 ?hyA20 hHeld ?restA20
                case hiA20 =>
                  simp only [List.getElem?_toArray, List.getElem?_cons_succ, List.getElem?_cons_zero]
                  rfl
                case hQA20 => exact fun _ _ _ h => h
                case hyA20 =>
                  exact Or.inr ⟨by rfl, rfl⟩
                try simp only [Act.put, List.setIfInBounds_toArray, List.set_cons_zero, List.set_cons_succ]
                refine wpAnyH_take (i := 21) (oi := ?oiA21) (v := undef) ?hiA21 (by kernel_rfl) (by kernel_rfl) (by kernel_rfl) ?hQA21 ?hyA21 hHeld ?restA21
                case hiA21 =>
                  simp only [List.getElem?_toArray, List.getElem?_cons_succ, List.getElem?_cons_zero]
                  rfl
                case hQA21 => exact fun _ _ _ h => h
                case hyA21 =>
                  exact Or.inr ⟨by rfl, rfl⟩
                try simp only [Act.put, List.setIfInBounds_toArray, List.set_cons_zero, List.set_cons_succ]
                refine wpAnyH_take (i := 22) (oi := ?oiA22) (v := undef) ?hiA22 (by kernel_rfl) (by kernel_rfl) (by kernel_rfl) ?hQA22 ?hyA22 hHeld ?restA22
                case hiA22 =>
                  simp only [List.getElem?_toArray, List.getElem?_cons_succ, List.getElem?_cons_zero]
                  rfl
                case hQA22 => exact fun _ _ _ h => h
                case hyA22 =>
                  exact Or.inr ⟨by rfl, rfl⟩
                try simp only [Act.put, List.setIfInBounds_toArray, List.set_cons_zero, List.set_cons_succ]
                refine wpAnyH_take (i := 23) (oi := ?oiA23) (v := undef) ?hiA23 (by kernel_rfl) (by kernel_rfl) (by kernel_rfl) ?hQA23 ?hyA23 hHeld ?restA23
                case hiA23 =>
                  simp only [List.getElem?_toArray, List.getElem?_cons_succ, List.getElem?_cons_zero]
                  rfl
                case hQA23 => exact fun _ _ _ h => h
                case hyA23 =>
                  exact Or.inr ⟨by rfl, rfl⟩
                try simp only [Act.put, List.setIfInBounds_toArray, List.set_cons_zero, List.set_cons_succ]
                refine wpAnyH_take (i := 24) (oi := ?oiA24) (v := undef) ?hiA24 (by kernel_rfl) (by kernel_rfl) (by kernel_rfl) ?hQA24 ?hyA24 hHeld ?restA24
                case hiA24 =>
                  simp only [List.getElem?_toArray, List.getElem?_cons_succ, List.getElem?_cons_zero]
                  rfl
                case hQA24 => exact fun _ _ _ h => h
                case hyA24 =>
                  exact Or.inr ⟨by rfl, rfl⟩
                try simp only [Act.put, List.setIfInBounds_toArray, List.set_cons_zero, List.set_cons_succ]
                refine wpAnyH_take (i := 25) (oi := ?oiA25) (v := undef) ?hiA25 (by kernel_rfl) (by kernel_rfl) (by kernel_rfl) ?hQA25 ?hyA25 hHeld ?restA25
                case hiA25 =>
                  simp only [List.getElem?_toArray, List.getElem?_cons_succ, List.getElem?_cons_zero]
                  rfl
                case hQA25 => exact fun _ _ _ h => h
                case hyA25 =>
                  exact Or.inr ⟨by rfl, rfl⟩
                try simp only [Act.put, List.setIfInBounds_toArray, List.set_cons_zero, List.set_cons_succ]
                refine wpAnyH_take (i := 26) (oi := ?oiA26) (v := undef) ?hiA26 (by kernel_rfl) (by kernel_rfl) (by kernel_rfl) ?hQA26 ?hyA26 hHeld ?restA26
                case hiA26 =>
                  simp only [List.getElem?_toArray, List.getElem?_cons_succ, List.getElem?_cons_zero]
                  rfl
                case hQA26 => exact fun _ _ _ h => h
                case hyA26 =>
                  exact Or.inr ⟨by rfl, rfl⟩
                try simp only [Act.put, List.setIfInBounds_toArray, List.set_cons_zero, List.set_cons_succ]
                refine wpAnyH_take (i := 27) (oi := ?oiA27) (v := undef) ?hiA27 (by kernel_rfl) (by kernel_rfl) (by kernel_rfl) ?hQA27 ?hyA27 hHeld ?restA27
                case hiA27 =>
                  simp only [List.getElem?_toArray, List.getElem?_cons_succ, List.getElem?_cons_zero]
                  rfl
                case hQA27 => exact fun _ _ _ h => h
                case hyA27 =>
                  exact Or.inr ⟨by rfl, rfl⟩
                try simp only [Act.put, List.setIfInBounds_toArray, List.set_cons_zero, List.set_cons_succ]
                refine wpAnyH_take (i := 28) (oi := ?oiA28) (v := undef) ?hiA28 (by kernel_rfl) (by kernel_rfl) (by kernel_rfl) ?hQA28 ?hyA28 hHeld ?restA28
                case hiA28 =>
                  simp only [List.getElem?_toArray, List.getElem?_cons_succ, List.getElem?_cons_zero]
                  rfl
                case hQA28 => exact fun _ _ _ h => h
                case hyA28 =>
                  exact Or.inr ⟨by rfl, rfl⟩
                try simp only [Act.put, List.setIfInBounds_toArray, List.set_cons_zero, List.set_cons_succ]
                refine wpAnyH_take (i := 29) (oi := ?oiA29) (v := undef) ?hiA29 (by kernel_rfl) (by kernel_rfl) (by kernel_rfl) ?hQA29 ?hyA29 hHeld ?restA29
                case hiA29 =>
                  simp only [List.getElem?_toArray, List.getElem?_cons_succ, List.getElem?_cons_zero]
                  rfl
                case hQA29 => exact fun _ _ _ h => h
                case hyA29 =>
                  exact Or.inr ⟨by rfl, rfl⟩
                try simp only [Act.put, List.setIfInBounds_toArray, List.set_cons_zero, List.set_cons_succ]
                refine wpAnyH_take (i := 30) (oi := ?oiA30) (v := undef) ?hiA30 (by kernel_rfl) (by kernel_rfl) (by kernel_rfl) ?hQA30 ?hyA30 hHeld ?restA30
                case hiA30 =>
                  simp only [List.getElem?_toArray, List.getElem?_cons_succ, List.getElem?_cons_zero]
                  rfl
                case hQA30 => exact fun _ _ _ h => h
                case hyA30 =>
                  exact Or.inr ⟨by rfl, rfl⟩
                try simp only [Act.put, List.setIfInBounds_toArray, List.set_cons_zero, List.set_cons_succ]
                refine wpAnyH_take (i := 31) (oi := ?oiA31) (v := undef) ?hiA31 (by kernel_rfl) (by kernel_rfl) (by kernel_rfl) ?hQA31 ?hyA31 hHeld ?restA31
                case hiA31 =>
                  simp only [List.getElem?_toArray, List.getElem?_cons_succ, List.getElem?_cons_zero]
                  rfl
                case hQA31 => exact fun _ _ _ h => h
                case hyA31 =>
                  exact Or.inr ⟨by rfl, rfl⟩
                try simp only [Act.put, List.setIfInBounds_toArray, List.set_cons_zero, List.set_cons_succ]
                refine wpAnyH_take (i := 32) (oi := ?oiA32) (v := undef) ?hiA32 (by kernel_rfl) (by kernel_rfl) (by kernel_rfl) ?hQA32 ?hyA32 hHeld ?restA32
                case hiA32 =>
                  simp only [List.getElem?_toArray, List.getElem?_cons_succ, List.getElem?_cons_zero]
                  rfl
                case hQA32 => exact fun _ _ _ h => h
                case hyA32 =>
                  exact Or.inr ⟨by rfl, rfl⟩
                try simp only [Act.put, List.setIfInBounds_toArray, List.set_cons_zero, List.set_cons_succ]
                refine wpAnyH_take (i := 33) (oi := ?oiA33) (v := undef) ?hiA33 (by kernel_rfl) (by kernel_rfl) (by kernel_rfl) ?hQA33 ?hyA33 hHeld ?restA33
                case hiA33 =>
                  simp only [List.getElem?_toArray, List.getElem?_cons_succ, List.getElem?_cons_zero]
                  rfl
                case hQA33 => exact fun _ _ _ h => h
                case hyA33 =>
                  exact Or.inr ⟨by rfl, rfl⟩
                try simp only [Act.put, List.setIfInBounds_toArray, List.set_cons_zero, List.set_cons_succ]
                refine wpAnyH_take (i := 34) (oi := ?oiA34) (v := undef) ?hiA34 (by kernel_rfl) (by kernel_rfl) (by kernel_rfl) ?hQA34 ?hyA34 hHeld ?restA34
                case hiA34 =>
                  simp only [List.getElem?_toArray, List.getElem?_cons_succ, List.getElem?_cons_zero]
                  rfl
                case hQA34 => exact fun _ _ _ h => h
                case hyA34 =>
                  exact Or.inr ⟨by rfl, rfl⟩
                try simp only [Act.put, List.setIfInBounds_toArray, List.set_cons_zero, List.set_cons_succ]
                refine wpAnyH_take (i := 35) (oi := ?oiA35) (v := undef) ?hiA35 (by kernel_rfl) (by kernel_rfl) (by kernel_rfl) ?hQA35 ?hyA35 hHeld ?restA35
                case hiA35 =>
                  simp only [List.getElem?_toArray, List.getElem?_cons_succ, List.getElem?_cons_zero]
                  rfl
                case hQA35 => exact fun _ _ _ h => h
                case hyA35 =>
                  exact Or.inr ⟨by rfl, rfl⟩
                try simp only [Act.put, List.setIfInBounds_toArray, List.set_cons_zero, List.set_cons_succ]
                refine wpAnyH_take (i := 36) (oi := ?oiA36) (v := undef) ?hiA36 (by kernel_rfl) (by kernel_rfl) (by kernel_rfl) ?hQA36 ?hyA36 hHeld ?restA36
                case hiA36 =>
                  simp only [List.getElem?_toArray, List.getElem?_cons_succ, List.getElem?_cons_zero]
                  rfl
                case hQA36 => exact fun _ _ _ h => h
                case hyA36 =>
                  exact Or.inr ⟨by rfl, rfl⟩
                try simp only [Act.put, List.setIfInBounds_toArray, List.set_cons_zero, List.set_cons_succ]
                refine wpAnyH_take (i := 37) (oi := ?oiA37) (v := undef) ?hiA37 (by kernel_rfl) (by kernel_rfl) (by kernel_rfl) ?hQA37 ?hyA37 hHeld ?restA37
                case hiA37 =>
                  simp only [List.getElem?_toArray, List.getElem?_cons_succ, List.getElem?_cons_zero]
                  rfl
                case hQA37 => exact fun _ _ _ h => h
                case hyA37 =>
                  exact Or.inr ⟨by rfl, rfl⟩
                try simp only [Act.put, List.setIfInBounds_toArray, List.set_cons_zero, List.set_cons_succ]
                refine wpAnyH_take (i := 38) (oi := ?oiA38) (v := undef) ?hiA38 (by kernel_rfl) (by kernel_rfl) (by kernel_rfl) ?hQA38 ?hyA38 hHeld ?restA38
                case hiA38 =>
                  simp only [List.getElem?_toArray, List.getElem?_cons_succ, List.getElem?_cons_zero]
                  rfl
                case hQA38 => exact fun _ _ _ h => h
                case hyA38 =>
                  exact Or.inr ⟨by rfl, rfl⟩
                try simp only [Act.put, List.setIfInBounds_toArray, List.set_cons_zero, List.set_cons_succ]
                refine wpAnyH_take (i := 39) (oi := ?oiA39) (v := undef) ?hiA39 (by kernel_rfl) (by kernel_rfl) (by kernel_rfl) ?hQA39 ?hyA39 hHeld ?restA39
                case hiA39 =>
                  simp only [List.getElem?_toArray, List.getElem?_cons_succ, List.getElem?_cons_zero]
                  rfl
                case hQA39 => exact fun _ _ _ h => h
                case hyA39 =>
                  exact Or.inr ⟨by rfl, rfl⟩
                try simp only [Act.put, List.setIfInBounds_toArray, List.set_cons_zero, List.set_cons_succ]
                refine wpAnyH_take (i := 40) (oi := ?oiA40) (v := undef) ?hiA40 (by kernel_rfl) (by kernel_rfl) (by kernel_rfl) ?hQA40 ?hyA40 hHeld ?restA40
                case hiA40 =>
                  simp only [List.getElem?_toArray, List.getElem?_cons_succ, List.getElem?_cons_zero]
                  rfl
                case hQA40 => exact fun _ _ _ h => h
                case hyA40 =>
                  exact Or.inr ⟨by rfl, rfl⟩
                try simp only [Act.put, List.setIfInBounds_toArray, List.set_cons_zero, List.set_cons_succ]
                refine wpAnyH_take (i := 41) (oi := ?oiA41) (v := undef) ?hiA41 (by kernel_rfl) (by kernel_rfl) (by kernel_rfl) ?hQA41 ?hyA41 hHeld ?restA41
                case hiA41 =>
                  simp only [List.getElem?_toArray, List.getElem?_cons_succ, List.getElem?_cons_zero]
                  rfl
                case hQA41 => exact fun _ _ _ h => h
                case hyA41 =>
                  exact Or.inr ⟨by rfl, rfl⟩
                try simp only [Act.put, List.setIfInBounds_toArray, List.set_cons_zero, List.set_cons_succ]
                refine wpAnyH_take (i := 42) (oi := ?oiA42) (v := undef) ?hiA42 (by kernel_rfl) (by kernel_rfl) (by kernel_rfl) ?hQA42 ?hyA42 hHeld ?restA42
                case hiA42 =>
                  simp only [List.getElem?_toArray, List.getElem?_cons_succ, List.getElem?_cons_zero]
                  rfl
                case hQA42 => exact fun _ _ _ h => h
                case hyA42 =>
                  exact Or.inr ⟨by rfl, rfl⟩
                try simp only [Act.put, List.setIfInBounds_toArray, List.set_cons_zero, List.set_cons_succ]
                refine wpAnyH_take (i := 43) (oi := ?oiA43) (v := undef) ?hiA43 (by kernel_rfl) (by kernel_rfl) (by kernel_rfl) ?hQA43 ?hyA43 hHeld ?restA43
                case hiA43 =>
                  simp only [List.getElem?_toArray, List.getElem?_cons_succ, List.getElem?_cons_zero]
                  rfl
                case hQA43 => exact fun _ _ _ h => h
                case hyA43 =>
                  exact Or.inr ⟨by rfl, rfl⟩
                try simp only [Act.put, List.setIfInBounds_toArray, List.set_cons_zero, List.set_cons_succ]
                refine wpAnyH_take (i := 44) (oi := ?oiA44) (v := undef) ?hiA44 (by kernel_rfl) (by kernel_rfl) (by kernel_rfl) ?hQA44 ?hyA44 hHeld ?restA44
                case hiA44 =>
                  simp only [List.getElem?_toArray, List.getElem?_cons_succ, List.getElem?_cons_zero]
                  rfl
                case hQA44 => exact fun _ _ _ h => h
                case hyA44 =>
                  exact Or.inr ⟨by rfl, rfl⟩
                try simp only [Act.put, List.setIfInBounds_toArray, List.set_cons_zero, List.set_cons_succ]
                refine wpAnyH_take (i := 45) (oi := ?oiA45) (v := undef) ?hiA45 (by kernel_rfl) (by kernel_rfl) (by kernel_rfl) ?hQA45 ?hyA45 hHeld ?restA45
                case hiA45 =>
                  simp only [List.getElem?_toArray, List.getElem?_cons_succ, List.getElem?_cons_zero]
                  rfl
                case hQA45 => exact fun _ _ _ h => h
                case hyA45 =>
                  exact Or.inr ⟨by rfl, rfl⟩
                try simp only [Act.put, List.setIfInBounds_toArray, List.set_cons_zero, List.set_cons_succ]
                refine wpAnyH_take (i := 46) (oi := ?oiA46) (v := undef) ?hiA46 (by kernel_rfl) (by kernel_rfl) (by kernel_rfl) ?hQA46 ?hyA46 hHeld ?restA46
                case hiA46 =>
                  simp only [List.getElem?_toArray, List.getElem?_cons_succ, List.getElem?_cons_zero]
                  rfl
                case hQA46 => exact fun _ _ _ h => h
                case hyA46 =>
                  exact Or.inr ⟨by rfl, rfl⟩
                try simp only [Act.put, List.setIfInBounds_toArray, List.set_cons_zero, List.set_cons_succ]
                refine wpAnyH_take (i := 47) (oi := ?oiA47) (v := undef) ?hiA47 (by kernel_rfl) (by kernel_rfl) (by kernel_rfl) ?hQA47 ?hyA47 hHeld ?restA47
                case hiA47 =>
                  simp only [List.getElem?_toArray, List.getElem?_cons_succ, List.getElem?_cons_zero]
                  rfl
                case hQA47 => exact fun _ _ _ h => h
                case hyA47 =>
                  exact Or.inr ⟨by rfl, rfl⟩
                try simp only [Act.put, List.setIfInBounds_toArray, List.set_cons_zero, List.set_cons_succ]
                refine wpAnyH_take (i := 48) (oi := ?oiA48) (v := undef) ?hiA48 (by kernel_rfl) (by kernel_rfl) (by kernel_rfl) ?hQA48 ?hyA48 hHeld ?restA48
                case hiA48 =>
                  simp only [List.getElem?_toArray, List.getElem?_cons_succ, List.getElem?_cons_zero]
                  rfl
                case hQA48 => exact fun _ _ _ h => h
                case hyA48 =>
                  exact Or.inr ⟨by rfl, rfl⟩
                try simp only [Act.put, List.setIfInBounds_toArray, List.set_cons_zero, List.set_cons_succ]
                refine wpAnyH_take (i := 49) (oi := ?oiA49) (v := undef) ?hiA49 (by kernel_rfl) (by kernel_rfl) (by kernel_rfl) ?hQA49 ?hyA49 hHeld ?restA49
                case hiA49 =>
                  simp only [List.getElem?_toArray, List.getElem?_cons_succ, List.getElem?_cons_zero]
                  rfl
                case hQA49 => exact fun _ _ _ h => h
                case hyA49 =>
                  exact Or.inr ⟨by rfl, rfl⟩
                try simp only [Act.put, List.setIfInBounds_toArray, List.set_cons_zero, List.set_cons_succ]
                refine wpAnyH_take (i := 50) (oi := ?oiA50) (v := undef) ?hiA50 (by kernel_rfl) (by kernel_rfl) (by kernel_rfl) ?hQA50 ?hyA50 hHeld ?restA50
                case hiA50 =>
                  simp only [List.getElem?_toArray, List.getElem?_cons_succ, List.getElem?_cons_zero]
                  rfl
                case hQA50 => exact fun _ _ _ h => h
                case hyA50 =>
                  exact Or.inr ⟨by rfl, rfl⟩
                try simp only [Act.put, List.setIfInBounds_toArray, List.set_cons_zero, List.set_cons_succ]
                refine wpAnyH_take (i := 51) (oi := ?oiA51) (v := undef) ?hiA51 (by kernel_rfl) (by kernel_rfl) (by kernel_rfl) ?hQA51 ?hyA51 hHeld ?restA51
                case hiA51 =>
                  simp only [List.getElem?_toArray, List.getElem?_cons_succ, List.getElem?_cons_zero]
                  rfl
                case hQA51 => exact fun _ _ _ h => h
                case hyA51 =>
                  exact Or.inr ⟨by rfl, rfl⟩
                try simp only [Act.put, List.setIfInBounds_toArray, List.set_cons_zero, List.set_cons_succ]
                refine wpAnyH_take (i := 52) (oi := ?oiA52) (v := undef) ?hiA52 (by kernel_rfl) (by kernel_rfl) (by kernel_rfl) ?hQA52 ?hyA52 hHeld ?restA52
                case hiA52 =>
                  simp only [List.getElem?_toArray, List.getElem?_cons_succ, List.getElem?_cons_zero]
                  rfl
                case hQA52 => exact fun _ _ _ h => h
                case hyA52 =>
                  exact Or.inr ⟨by rfl, rfl⟩
                try simp only [Act.put, List.setIfInBounds_toArray, List.set_cons_zero, List.set_cons_succ]
                refine wpAnyH_take (i := 53) (oi := ?oiA53) (v := (.bool false)) ?hiA53 (by kernel_rfl) (by kernel_rfl) (by kernel_rfl) ?hQA53 ?hyA53 hHeld ?restA53
                case hiA53 =>
                  simp only [List.getElem?_toArray, List.getElem?_cons_succ, List.getElem?_cons_zero]
                  rfl
                case hQA53 => exact fun _ _ _ h => h
                case hyA53 =>
                  refine Or.inl ⟨by rfl, ?_⟩
                  intro w hSw
                  go_simp
                try simp only [Act.put, List.setIfInBounds_toArray, List.set_cons_zero, List.set_cons_succ]
                refine wpAnyH_done (by kernel_rfl) ?_ _
                go_wp2_with fail
                go_roundw
                case rel => exact ⟨k + 1, by go_num, by omega, Lib.hid ⟨HS.out.cb, HS.out.hb, HS.out.ch⟩⟩
                case measure => simp [intOf]; omega
              · by_cases hh : r.m.host = ri.m.host
                · obtain ⟨b1, b2⟩ := HBQ.out HT.out hh
                  have hq : (r.m.host.toList == ri.m.host.toList) = true := by rw [hh]; exact eqb_true _
                  clear hh
                  have b1n : r.m.pre.size ≤ ri.m.pre.size := by omega
                  by_cases hkM : k < M
                  · have hne : ((r.m.pre.size : Int) == (ri.m.pre.size : Int)) = false := beq_eq_false_iff_ne.2 (fun q => b2 ⟨hkM, q⟩)
                    have hne2 : ¬ (r.m.pre.size : Int) = (ri.m.pre.size : Int) := fun q => b2 ⟨hkM, q⟩
                    have hki : (k : Int) < (M : Int) := by omega
                    clear b2
                    refine wp_region_held_drew (S := fun W => Hid (SP b g p (cfRow c (.slice A c.hosts.length cap) (.slice (some ⟨bk, o, none⟩) c.routes.length cap2)) (hdRow h fv) (rtRow r (.slice An ln cn) (.slice Ao lo co)) w W)) (by kernel_rfl) HS (fun hHeld => ?_)
                    refine wpAnyH_take (i := 0) (oi := ?oiE0) (v := (.pointer (some ⟨p, 0, none⟩))) ?hiE0 (by kernel_rfl) (by kernel_rfl) (by kernel_rfl) ?hQE0 ?hyE0 hHeld ?restE0
                    case hiE0 =>
                      simp only [List.getElem?_toArray, List.getElem?_cons_zero]
                      rfl
                    case hQE0 => exact fun _ _ _ h => h
                    case hyE0 =>
                      refine Or.inl ⟨by rfl, ?_⟩
                      intro w hSw
                      go_simp
                    try simp only [Act.put, List.setIfInBounds_toArray, List.set_cons_zero, List.set_cons_succ]
                    refine wpAnyH_take (i := 1) (oi := ?oiE1) (v := .agg (maRow r.m (.slice An ln cn)).toArray) ?hiE1 (by kernel_rfl) (by kernel_rfl) (by kernel_rfl) ?hQE1 ?hyE1 hHeld ?restE1
                    case hiE1 =>
                      simp only [List.getElem?_toArray, List.getElem?_cons_succ, List.getElem?_cons_zero]
                      rfl
                    case hQE1 => exact fun _ _ _ h => h
                    case hyE1 =>
                      exact yields_row (by rfl) 24 _ rfl ⟨p, 0, none⟩ _ rfl (fun w hSw => mt_load hSw.out.pb)
                    try simp only [Act.put, List.setIfInBounds_toArray, List.set_cons_zero, List.set_cons_succ]
                    refine wpAnyH_take (i := 2) (oi := ?oiE2) (v := .agg (hdRow h fv).toArray) ?hiE2 (by kernel_rfl) (by kernel_rfl) (by kernel_rfl) ?hQE2 ?hyE2 hHeld ?restE2
                    case hiE2 =>
                      simp only [List.getElem?_toArray, List.getElem?_cons_succ, List.getElem?_cons_zero]
                      rfl
                    case hQE2 => exact fun _ _ _ h => h
                    case hyE2 =>
                      exact yields_row (by rfl) 27 _ rfl ⟨g, 0, none⟩ _ rfl (fun w hSw => hd_load hSw.out.hb)
                    try simp only [Act.put, List.setIfInBounds_toArray, List.set_cons_zero, List.set_cons_succ]
                    refine wpAnyH_take (i := 3) (oi := ?oiE3) (v := (.string ho)) ?hiE3 (by kernel_rfl) (by kernel_rfl) (by kernel_rfl) ?hQE3 ?hyE3 hHeld ?restE3
                    case hiE3 =>
                      simp only [List.getElem?_toArray, List.getElem?_cons_succ, List.getElem?_cons_zero]
                      rfl
                    case hQE3 => exact fun _ _ _ h => h
                    case hyE3 =>
                      refine Or.inl ⟨by rfl, ?_⟩
                      intro w hSw
                      go_simp
                    try simp only [Act.put, List.setIfInBounds_toArray, List.set_cons_zero, List.set_cons_succ]
                    refine wpAnyH_take (i := 4) (oi := ?oiE4) (v := (.string pa)) ?hiE4 (by kernel_rfl) (by kernel_rfl) (by kernel_rfl) ?hQE4 ?hyE4 hHeld ?restE4
                    case hiE4 =>
                      simp only [List.getElem?_toArray, List.getElem?_cons_succ, List.getElem?_cons_zero]
                      rfl
                    case hQE4 => exact fun _ _ _ h => h
                    case hyE4 =>
                      refine Or.inl ⟨by rfl, ?_⟩
                      intro w hSw
                      go_simp
                    try simp only [Act.put, List.setIfInBounds_toArray, List.set_cons_zero, List.set_cons_succ]
                    refine wpAnyH_ready (rs := [5]) (by kernel_rfl) (by simp) ?_
                    refine AllReadyH.cons rfl (fun K hK => ?_) AllReadyH.nil
                    go_simp
                    refine (takesM_any r.m h (.slice An ln cn) fv ho pa _ (Lib.hid (HTR.out.chg HC.out)) (Lib.hid (hfs.out.chg HC.out)) HRS hhz hos pas true HT.out).mono ?_
                    rintro e w3 ⟨rfl, H3⟩
                    have HC3 := Lib.hid (HC.out.trans H3.out (by simp))
                    have HS3 := Lib.hid (HS.out.chg H3.out)
                    clear HC HS
                    have HC := HC3
                    have HS := HS3
                    clear HC3 HS3
                    go_wp2_with fail
                    refine hK.out _ _ HS (fun hHeld => ?_)
                    clear hK K
                    try simp only [Act.put, List.setIfInBounds_toArray, List.set_cons_zero, List.set_cons_succ]
                    refine wpAnyH_take (i := 6) (oi := ?oiE6) (v := (.bool true)) ?hiE6 (by kernel_rfl) (by kernel_rfl) (by kernel_rfl) ?hQE6 ?hyE6 hHeld ?restE6
                    case hiE6 =>
                      simp only [List.getElem?_toArray, List.getElem?_cons_succ, List.getElem?_cons_zero]
                      rfl
                    case hQE6 => exact fun _ _ _ h => h
                    case hyE6 =>
                      refine Or.inl ⟨by rfl, ?_⟩
                      intro w hSw
                      go_simp
                    try simp only [Act.put, List.setIfInBounds_toArray, List.set_cons_zero, List.set_cons_succ]
                    refine wpAnyH_take (i := 7) (oi := ?oiE7) (v := (.pointer (some ⟨p, 0, none⟩))) ?hiE7 (by kernel_rfl) (by kernel_rfl) (by kernel_rfl) ?hQE7 ?hyE7 hHeld ?restE7
                    case hiE7 =>
                      simp only [List.getElem?_toArray, List.getElem?_cons_succ, List.getElem?_cons_zero]
                      rfl
                    case hQE7 => exact fun _ _ _ h => h
                    case hyE7 =>
                      refine Or.inl ⟨by rfl, ?_⟩
                      intro w hSw
                      go_simp
                    try simp only [Act.put, List.setIfInBounds_toArray, List.set_cons_zero, List.set_cons_succ]
                    refine wpAnyH_take (i := 8) (oi := ?oiE8) (v := (.pointer (some ⟨p, 0, none⟩))) ?hiE8 (by kernel_rfl) (by kernel_rfl) (by kernel_rfl) ?hQE8 ?hyE8 hHeld ?restE8
                    case hiE8 =>
                      simp only [List.getElem?_toArray, List.getElem?_cons_succ, List.getElem?_cons_zero]
                      rfl
                    case hQE8 => exact fun _ _ _ h => h
                    case hyE8 =>
                      refine Or.inl ⟨by rfl, ?_⟩
                      intro w hSw
                      go_simp
                    try simp only [Act.put, List.setIfInBounds_toArray, List.set_cons_zero, List.set_cons_succ]
                    refine wpAnyH_take (i := 9) (oi := ?oiE9) (v := (.string r.m.host)) ?hiE9 (by kernel_rfl) (by kernel_rfl) (by kernel_rfl) ?hQE9 ?hyE9 hHeld ?restE9
                    case hiE9 =>
                      simp only [List.getElem?_toArray, List.getElem?_cons_succ, List.getElem?_cons_zero]
                      rfl
                    case hQE9 => exact fun _ _ _ h => h
                    case hyE9 =>
                      refine Or.inl ⟨by rfl, ?_⟩
                      intro w hSw
                      have hcc := hSw.out.pb.cell 0 _ rfl
                      go_simp
                    try simp only [Act.put, List.setIfInBounds_toArray, List.set_cons_zero, List.set_cons_succ]
                    refine wpAnyH_take (i := 10) (oi := ?oiE10) (v := (.pointer (some ⟨b, 1, none⟩))) ?hiE10 (by kernel_rfl) (by kernel_rfl) (by kernel_rfl) ?hQE10 ?hyE10 hHeld ?restE10
                    case hiE10 =>
                      simp only [List.getElem?_toArray, List.getElem?_cons_succ, List.getElem?_cons_zero]
                      rfl
                    case hQE10 => exact fun _ _ _ h => h
                    case hyE10 =>
                      refine Or.inl ⟨by rfl, ?_⟩
                      intro w hSw
                      go_simp
                    try simp only [Act.put, List.setIfInBounds_toArray, List.set_cons_zero, List.set_cons_succ]
                    refine wpAnyH_take (i := 11) (oi := ?oiE11) (v := (.slice (some ⟨bk, o, none⟩) c.routes.length cap2)) ?hiE11 (by kernel_rfl) (by kernel_rfl) (by kernel_rfl) ?hQE11 ?hyE11 hHeld ?restE11
                    case hiE11 =>
                      simp only [List.getElem?_toArray, List.getElem?_cons_succ, List.getElem?_cons_zero]
                      rfl
                    case hQE11 => exact fun _ _ _ h => h
                    case hyE11 =>
                      refine Or.inl ⟨by rfl, ?_⟩
                      intro w hSw
                      have hcc := hSw.out.cb.cell 1 _ rfl
                      go_simp
                    try simp only [Act.put, List.setIfInBounds_toArray, List.set_cons_zero, List.set_cons_succ]
                    refine wpAnyH_take (i := 12) (oi := ?oiE12) (v := (.int .i64 (M : Int))) ?hiE12 (by kernel_rfl) (by kernel_rfl) (by kernel_rfl) ?hQE12 ?hyE12 hHeld ?restE12
                    case hiE12 =>
                      simp only [List.getElem?_toArray, List.getElem?_cons_succ, List.getElem?_cons_zero]
                      rfl
                    case hQE12 => exact fun _ _ _ h => h
                    case hyE12 =>
                      refine Or.inl ⟨by rfl, ?_⟩
                      intro w hSw
                      go_simp
                    try simp only [Act.put, List.setIfInBounds_toArray, List.set_cons_zero, List.set_cons_succ]
                    refine wpAnyH_take (i := 13) (oi := ?oiE13) (v := (.pointer (some ⟨bk, o + M * 21, none⟩))) ?hiE13 (by kernel_rfl) (by kernel_rfl) (by kernel_rfl) ?hQE13 ?hyE13 hHeld ?restE13
                    case hiE13 =>
                      simp only [List.getElem?_toArray, List.getElem?_cons_succ, List.getElem?_cons_zero]
                      rfl
                    case hQE13 => exact fun _ _ _ h => h
                    case hyE13 =>
                      refine Or.inl ⟨by rfl, ?_⟩
                      intro w hSw
                      go_simp
                    try simp only [Act.put, List.setIfInBounds_toArray, List.set_cons_zero, List.set_cons_succ]
                    refine wpAnyH_take (i := 14) (oi := ?oiE14) (v := (.pointer (some ⟨bk, o + M * 21, none⟩))) ?hiE14 (by kernel_rfl) (by kernel_rfl) (by kernel_rfl) ?hQE14 ?hyE14 hHeld ?restE14
                    case hiE14 =>
                      simp only [List.getElem?_toArray, List.getElem?_cons_succ, List.getElem?_cons_zero]
                      rfl
                    case hQE14 => exact fun _ _ _ h => h
                    case hyE14 =>
                      refine Or.inl ⟨by rfl, ?_⟩
                      intro w hSw
                      go_simp
                    try simp only [Act.put, List.setIfInBounds_toArray, List.set_cons_zero, List.set_cons_succ]
                    refine wpAnyH_take (i := 15) (oi := ?oiE15) (v := (.pointer (some ⟨bk, o + M * 21, none⟩))) ?hiE15 (by kernel_rfl) (by kernel_rfl) (by kernel_rfl) ?hQE15 ?hyE15 hHeld ?restE15
                    case hiE15 =>
                      simp only [List.getElem?_toArray, List.getElem?_cons_succ, List.getElem?_cons_zero]
                      rfl
                    case hQE15 => exact fun _ _ _ h => h
                    case hyE15 =>
                      refine Or.inl ⟨by rfl, ?_⟩
                      intro w hSw
                      go_simp
                    try simp only [Act.put, List.setIfInBounds_toArray, List.set_cons_zero, List.set_cons_succ]
                    refine wpAnyH_take (i := 16) (oi := ?oiE16) (v := (.string ri.m.host)) ?hiE16 (by kernel_rfl) (by kernel_rfl) (by kernel_rfl) ?hQE16 ?hyE16 hHeld ?restE16
                    case hiE16 =>
                      simp only [List.getElem?_toArray, List.getElem?_cons_succ, List.getElem?_cons_zero]
                      rfl
                    case hQE16 => exact fun _ _ _ h => h
                    case hyE16 =>
                      refine Or.inl ⟨by rfl, ?_⟩
                      intro w hSw
                      have hcc := hSw.out.ch.cell f0 (by simp)
                      go_simp
                    try simp only [Act.put, List.setIfInBounds_toArray, List.set_cons_zero, List.set_cons_succ]
                    refine wpAnyH_take (i := 17) (oi := ?oiE17) (v := (.bool true)) ?hiE17 (by kernel_rfl) (by kernel_rfl) (by kernel_rfl) ?hQE17 ?hyE17 hHeld ?restE17
                    case hiE17 =>
                      simp only [List.getElem?_toArray, List.getElem?_cons_succ, List.getElem?_cons_zero]
                      rfl
                    case hQE17 => exact fun _ _ _ h => h
                    case hyE17 =>
                      refine Or.inl ⟨by rfl, ?_⟩
                      intro w hSw
                      go_simp
                    try simp only [Act.put, List.setIfInBounds_toArray, List.set_cons_zero, List.set_cons_succ]
                    refine wpAnyH_take (i := 18) (oi := ?oiE18) (v := (.bool true)) ?hiE18 (by kernel_rfl) (by kernel_rfl) (by kernel_rfl) ?hQE18 ?hyE18 hHeld ?restE18
                    case hiE18 =>
                      simp only [List.getElem?_toArray, List.getElem?_cons_succ, List.getElem?_cons_zero]
                      rfl
                    case hQE18 => exact fun _ _ _ h => h
                    case hyE18 =>
                      refine Or.inl ⟨by rfl, ?_⟩
                      intro w hSw
                      go_simp
                    try simp only [Act.put, List.setIfInBounds_toArray, List.set_cons_zero, List.set_cons_succ]
                    refine wpAnyH_take (i := 19) (oi := ?oiE19) (v := (.bool true)) ?hiE19 (by kernel_rfl) (by kernel_rfl) (by kernel_rfl) ?hQE19 ?hyE19 hHeld ?restE19
                    case hiE19 =>
                      simp only [List.getElem?_toArray, List.getElem?_cons_succ, List.getElem?_cons_zero]
                      rfl
                    case hQE19 => exact fun _ _ _ h => h
                    case hyE19 =>
                      refine Or.inl ⟨by rfl, ?_⟩
                      intro w hSw
                      go_simp
                    try simp only [Act.put, List.setIfInBounds_toArray, List.set_cons_zero, List.set_cons_succ]
                    refine wpAnyH_take (i := 20) (oi := ?oiE20) (v := (.pointer (some ⟨p, 0, none⟩))) ?hiE20 (by kernel_rfl) (by kernel_rfl) (by kernel_rfl) ?hQE20 ?hyE20 hHeld ?restE20
                    case hiE20 =>
                      simp only [List.getElem?_toArray, List.getElem?_cons_succ, List.getElem?_cons_zero]
                      rfl
                    case hQE20 => exact fun _ _ _ h => h
                    case hyE20 =>
                      refine Or.inl ⟨by rfl, ?_⟩
                      intro w hSw
                      go_simp
                    try simp only [Act.put, List.setIfInBounds_toArray, List.set_cons_zero, List.set_cons_succ]
                    refine wpAnyH_take (i := 21) (oi := ?oiE21) (v := (.pointer (some ⟨p, 1, none⟩))) ?hiE21 (by kernel_rfl) (by kernel_rfl) (by kernel_rfl) ?hQE21 ?hyE21 hHeld ?restE21
                    case hiE21 =>
                      simp only [List.getElem?_toArray, List.getElem?_cons_succ, List.getElem?_cons_zero]
                      rfl
                    case hQE21 => exact fun _ _ _ h => h
                    case hyE21 =>
                      refine Or.inl ⟨by rfl, ?_⟩
                      intro w hSw
                      go_simp
                    try simp only [Act.put, List.setIfInBounds_toArray, List.set_cons_zero, List.set_cons_succ]
                    refine wpAnyH_take (i := 22) (oi := ?oiE22) (v := (.string r.m.pre)) ?hiE22 (by kernel_rfl) (by kernel_rfl) (by kernel_rfl) ?hQE22 ?hyE22 hHeld ?restE22
                    case hiE22 =>
                      simp only [List.getElem?_toArray, List.getElem?_cons_succ, List.getElem?_cons_zero]
                      rfl
                    case hQE22 => exact fun _ _ _ h => h
                    case hyE22 =>
                      refine Or.inl ⟨by rfl, ?_⟩
                      intro w hSw
                      have hcc := hSw.out.pb.cell 1 _ rfl
                      go_simp
                    try simp only [Act.put, List.setIfInBounds_toArray, List.set_cons_zero, List.set_cons_succ]
                    refine wpAnyH_take (i := 23) (oi := ?oiE23) (v := (.int .i64 (r.m.pre.size : Int))) ?hiE23 (by kernel_rfl) (by kernel_rfl) (by kernel_rfl) ?hQE23 ?hyE23 hHeld ?restE23
                    case hiE23 =>
                      simp only [List.getElem?_toArray, List.getElem?_cons_succ, List.getElem?_cons_zero]
                      rfl
                    case hQE23 => exact fun _ _ _ h => h
                    case hyE23 =>
                      refine Or.inl ⟨by rfl, ?_⟩
                      intro w hSw
                      go_simp
                    try simp only [Act.put, List.setIfInBounds_toArray, List.set_cons_zero, List.set_cons_succ]
                    refine wpAnyH_take (i := 24) (oi := ?oiE24) (v := (.pointer (some ⟨b, 1, none⟩))) ?hiE24 (by kernel_rfl) (by kernel_rfl) (by kernel_rfl) ?hQE24 ?hyE24 hHeld ?restE24
                    case hiE24 =>
                      simp only [List.getElem?_toArray, List.getElem?_cons_succ, List.getElem?_cons_zero]
                      rfl
                    case hQE24 => exact fun _ _ _ h => h
                    case hyE24 =>
                      refine Or.inl ⟨by rfl, ?_⟩
                      intro w hSw
                      go_simp
                    try simp only [Act.put, List.setIfInBounds_toArray, List.set_cons_zero, List.set_cons_succ]
                    refine wpAnyH_take (i := 25) (oi := ?oiE25) (v := (.slice (some ⟨bk, o, none⟩) c.routes.length cap2)) ?hiE25 (by kernel_rfl) (by kernel_rfl) (by kernel_rfl) ?hQE25 ?hyE25 hHeld ?restE25
                    case hiE25 =>
                      simp only [List.getElem?_toArray, List.getElem?_cons_succ, List.getElem?_cons_zero]
                      rfl
                    case hQE25 => exact fun _ _ _ h => h
                    case hyE25 =>
                      refine Or.inl ⟨by rfl, ?_⟩
                      intro w hSw
                      have hcc := hSw.out.cb.cell 1 _ rfl
                      go_simp
                    try simp only [Act.put, List.setIfInBounds_toArray, List.set_cons_zero, List.set_cons_succ]
                    refine wpAnyH_take (i := 26) (oi := ?oiE26) (v := (.int .i64 (M : Int))) ?hiE26 (by kernel_rfl) (by kernel_rfl) (by kernel_rfl) ?hQE26 ?hyE26 hHeld ?restE26
                    case hiE26 =>
                      simp only [List.getElem?_toArray, List.getElem?_cons_succ, List.getElem?_cons_zero]
                      rfl
                    case hQE26 => exact fun _ _ _ h => h
                    case hyE26 =>
                      refine Or.inl ⟨by rfl, ?_⟩
                      intro w hSw
                      go_simp
                    try simp only [Act.put, List.setIfInBounds_toArray, List.set_cons_zero, List.set_cons_succ]
                    refine wpAnyH_take (i := 27) (oi := ?oiE27) (v := (.pointer (some ⟨bk, o + M * 21, none⟩))) ?hiE27 (by kernel_rfl) (by kernel_rfl) (by kernel_rfl) ?hQE27 ?hyE27 hHeld ?restE27
                    case hiE27 =>
                      simp only [List.getElem?_toArray, List.getElem?_cons_succ, List.getElem?_cons_zero]
                      rfl
                    case hQE27 => exact fun _ _ _ h => h
                    case hyE27 =>
                      refine Or.inl ⟨by rfl, ?_⟩
                      intro w hSw
                      go_simp
                    try simp only [Act.put, List.setIfInBounds_toArray, List.set_cons_zero, List.set_cons_succ]
                    refine wpAnyH_take (i := 28) (oi := ?oiE28) (v := (.pointer (some ⟨bk, o + M * 21, none⟩))) ?hiE28 (by kernel_rfl) (by kernel_rfl) (by kernel_rfl) ?hQE28 ?hyE28 hHeld ?restE28
                    case hiE28 =>
                      simp only [List.getElem?_toArray, List.getElem?_cons_succ, List.getElem?_cons_zero]
                      rfl
                    case hQE28 => exact fun _ _ _ h => h
                    case hyE28 =>
                      refine Or.inl ⟨by rfl, ?_⟩
                      intro w hSw
                      go_simp
                    try simp only [Act.put, List.setIfInBounds_toArray, List.set_cons_zero, List.set_cons_succ]
                    refine wpAnyH_take (i := 29) (oi := ?oiE29) (v := (.pointer (some ⟨bk, o + M * 21 + 1, none⟩))) ?hiE29 (by kernel_rfl) (by kernel_rfl) (by kernel_rfl) ?hQE29 ?hyE29 hHeld ?restE29
                    case hiE29 =>
                      simp only [List.getElem?_toArray, List.getElem?_cons_succ, List.getElem?_cons_zero]
                      rfl
                    case hQE29 => exact fun _ _ _ h => h
                    case hyE29 =>
                      refine Or.inl ⟨by rfl, ?_⟩
                      intro w hSw
                      go_simp
                    try simp only [Act.put, List.setIfInBounds_toArray, List.set_cons_zero, List.set_cons_succ]
                    refine wpAnyH_take (i := 30) (oi := ?oiE30) (v := (.string ri.m.pre)) ?hiE30 (by kernel_rfl) (by kernel_rfl) (by kernel_rfl) ?hQE30 ?hyE30 hHeld ?restE30
                    case hiE30 =>
                      simp only [List.getElem?_toArray, List.getElem?_cons_succ, List.getElem?_cons_zero]
                      rfl
                    case hQE30 => exact fun _ _ _ h => h
                    case hyE30 =>
                      refine Or.inl ⟨by rfl, ?_⟩
                      intro w hSw
                      have hcc := hSw.out.ch.cell f1 (by simp)
                      go_simp
                    try simp only [Act.put, List.setIfInBounds_toArray, List.set_cons_zero, List.set_cons_succ]
                    refine wpAnyH_take (i := 31) (oi := ?oiE31) (v := (.int .i64 (ri.m.pre.size : Int))) ?hiE31 (by kernel_rfl) (by kernel_rfl) (by kernel_rfl) ?hQE31 ?hyE31 hHeld ?restE31
                    case hiE31 =>
                      simp only [List.getElem?_toArray, List.getElem?_cons_succ, List.getElem?_cons_zero]
                      rfl
                    case hQE31 => exact fun _ _ _ h => h
                    case hyE31 =>
                      refine Or.inl ⟨by rfl, ?_⟩
                      intro w hSw
                      go_simp
                    try simp only [Act.put, List.setIfInBounds_toArray, List.set_cons_zero, List.set_cons_succ]
                    refine wpAnyH_take (i := 32) (oi := ?oiE32) (v := (.bool false)) ?hiE32 (by kernel_rfl) (by kernel_rfl) (by kernel_rfl) ?hQE32 ?hyE32 hHeld ?restE32
                    case hiE32 =>
                      simp only [List.getElem?_toArray, List.getElem?_cons_succ, List.getElem?_cons_zero]
                      rfl
                    case hQE32 => exact fun _ _ _ h => h
                    case hyE32 =>
                      refine Or.inl ⟨by rfl, ?_⟩
                      intro w hSw
                      go_simp
                    try simp only [Act.put, List.setIfInBounds_toArray, List.set_cons_zero, List.set_cons_succ]
                    refine wpAnyH_take (i := 33) (oi := ?oiE33) (v := (.bool false)) ?hiE33 (by kernel_rfl) (by kernel_rfl) (by kernel_rfl) ?hQE33 ?hyE33 hHeld ?restE33
                    case hiE33 =>
                      simp only [List.getElem?_toArray, List.getElem?_cons_succ, List.getElem?_cons_zero]
                      rfl
                    case hQE33 => exact fun _ _ _ h => h
                    case hyE33 =>
                      refine Or.inl ⟨by rfl, ?_⟩
                      intro w hSw
                      go_simp
                    try simp only [Act.put, List.setIfInBounds_toArray, List.set_cons_zero, List.set_cons_succ]
                    refine wpAnyH_take (i := 34) (oi := ?oiE34) (v := (.int .i64 (k : Int))) ?hiE34 (by kernel_rfl) (by kernel_rfl) (by kernel_rfl) ?hQE34 ?hyE34 hHeld ?restE34
                    case hiE34 =>
                      simp only [List.getElem?_toArray, List.getElem?_cons_succ, List.getElem?_cons_zero]
                      rfl
                    case hQE34 => exact fun _ _ _ h => h
                    case hyE34 =>
                      refine Or.inl ⟨by rfl, ?_⟩
                      intro w hSw
                      go_simp
                    try simp only [Act.put, List.setIfInBounds_toArray, List.set_cons_zero, List.set_cons_succ]
                    refine wpAnyH_take (i := 35) (oi := ?oiE35) (v := (.int .i64 (M : Int))) ?hiE35 (by kernel_rfl) (by kernel_rfl) (by kernel_rfl) ?hQE35 ?hyE35 hHeld ?restE35
                    case hiE35 =>
                      simp only [List.getElem?_toArray, List.getElem?_cons_succ, List.getElem?_cons_zero]
                      rfl
                    case hQE35 => exact fun _ _ _ h => h
                    case hyE35 =>
                      refine Or.inl ⟨by rfl, ?_⟩
                      intro w hSw
                      go_simp
                    try simp only [Act.put, List.setIfInBounds_toArray, List.set_cons_zero, List.set_cons_succ]
                    refine wpAnyH_take (i := 36) (oi := ?oiE36) (v := (.bool true)) ?hiE36 (by kernel_rfl) (by kernel_rfl) (by kernel_rfl) ?hQE36 ?hyE36 hHeld ?restE36
                    case hiE36 =>
                      simp only [List.getElem?_toArray, List.getElem?_cons_succ, List.getElem?_cons_zero]
                      rfl
                    case hQE36 => exact fun _ _ _ h => h
                    case hyE36 =>
                      refine Or.inl ⟨by rfl, ?_⟩
                      intro w hSw
                      go_simp
                    try simp only [Act.put, List.setIfInBounds_toArray, List.set_cons_zero, List.set_cons_succ]
                    refine wpAnyH_take (i := 37) (oi := ?oiE37) (v := (.bool true)) ?hiE37 (by kernel_rfl) (by kernel_rfl) (by kernel_rfl) ?hQE37 ?hyE37 hHeld ?restE37
                    case hiE37 =>
                      simp only [List.getElem?_toArray, List.getElem?_cons_succ, List.getElem?_cons_zero]
                      rfl
                    case hQE37 => exact fun _ _ _ h => h
                    case hyE37 =>
                      refine Or.inl ⟨by rfl, ?_⟩
                      intro w hSw
                      go_simp
                    try simp only [Act.put, List.setIfInBounds_toArray, List.set_cons_zero, List.set_cons_succ]
                    refine wpAnyH_take (i := 38) (oi := ?oiE38) (v := (.pointer (some ⟨p, 0, none⟩))) ?hiE38 (by kernel_rfl) (by kernel_rfl) (by kernel_rfl) ?hQE38 ?hyE38 hHeld ?restE38
                    case hiE38 =>
                      simp only [List.getElem?_toArray, List.getElem?_cons_succ, List.getElem?_cons_zero]
                      rfl
                    case hQE38 => exact fun _ _ _ h => h
                    case hyE38 =>
                      refine Or.inl ⟨by rfl, ?_⟩
                      intro w hSw
                      go_simp
                    try simp only [Act.put, List.setIfInBounds_toArray, List.set_cons_zero, List.set_cons_succ]
                    refine wpAnyH_take (i := 39) (oi := ?oiE39) (v := (.pointer (some ⟨p, 1, none⟩))) ?hiE39 (by kernel_rfl) (by kernel_rfl) (by kernel_rfl) ?hQE39 ?hyE39 hHeld ?restE39
                    case hiE39 =>
                      simp only [List.getElem?_toArray, List.getElem?_cons_succ, List.getElem?_cons_zero]
                      rfl
                    case hQE39 => exact fun _ _ _ h => h
                    case hyE39 =>
                      refine Or.inl ⟨by rfl, ?_⟩
                      intro w hSw
                      go_simp
                    try simp only [Act.put, List.setIfInBounds_toArray, List.set_cons_zero, List.set_cons_succ]
                    refine wpAnyH_take (i := 40) (oi := ?oiE40) (v := (.string r.m.pre)) ?hiE40 (by kernel_rfl) (by kernel_rfl) (by kernel_rfl) ?hQE40 ?hyE40 hHeld ?restE40
                    case hiE40 =>
                      simp only [List.getElem?_toArray, List.getElem?_cons_succ, List.getElem?_cons_zero]
                      rfl
                    case hQE40 => exact fun _ _ _ h => h
                    case hyE40 =>
                      refine Or.inl ⟨by rfl, ?_⟩
                      intro w hSw
                      have hcc := hSw.out.pb.cell 1 _ rfl
                      go_simp
                    try simp only [Act.put, List.setIfInBounds_toArray, List.set_cons_zero, List.set_cons_succ]
                    refine wpAnyH_take (i := 41) (oi := ?oiE41) (v := (.int .i64 (r.m.pre.size : Int))) ?hiE41 (by kernel_rfl) (by kernel_rfl) (by kernel_rfl) ?hQE41 ?hyE41 hHeld ?restE41
                    case hiE41 =>
                      simp only [List.getElem?_toArray, List.getElem?_cons_succ, List.getElem?_cons_zero]
                      rfl
                    case hQE41 => exact fun _ _ _ h => h
                    case hyE41 =>
                      refine Or.inl ⟨by rfl, ?_⟩
                      intro w hSw
                      go_simp
                    try simp only [Act.put, List.setIfInBounds_toArray, List.set_cons_zero, List.set_cons_succ]
                    refine wpAnyH_take (i := 42) (oi := ?oiE42) (v := (.pointer (some ⟨b, 1, none⟩))) ?hiE42 (by kernel_rfl) (by kernel_rfl) (by kernel_rfl) ?hQE42 ?hyE42 hHeld ?restE42
                    case hiE42 =>
                      simp only [List.getElem?_toArray, List.getElem?_cons_succ, List.getElem?_cons_zero]
                      rfl
                    case hQE42 => exact fun _ _ _ h => h
                    case hyE42 =>
                      refine Or.inl ⟨by rfl, ?_⟩
                      intro w hSw
                      go_simp
                    try simp only [Act.put, List.setIfInBounds_toArray, List.set_cons_zero, List.set_cons_succ]
                    refine wpAnyH_take (i := 43) (oi := ?oiE43) (v := (.slice (some ⟨bk, o, none⟩) c.routes.length cap2)) ?hiE43 (by kernel_rfl) (by kernel_rfl) (by kernel_rfl) ?hQE43 ?hyE43 hHeld ?restE43
                    case hiE43 =>
                      simp only [List.getElem?_toArray, List.getElem?_cons_succ, List.getElem?_cons_zero]
                      rfl
                    case hQE43 => exact fun _ _ _ h => h
                    case hyE43 =>
                      refine Or.inl ⟨by rfl, ?_⟩
                      intro w hSw
                      have hcc := hSw.out.cb.cell 1 _ rfl
                      go_simp
                    try simp only [Act.put, List.setIfInBounds_toArray, List.set_cons_zero, List.set_cons_succ]
                    refine wpAnyH_take (i := 44) (oi := ?oiE44) (v := (.int .i64 (M : Int))) ?hiE44 (by kernel_rfl) (by kernel_rfl) (by kernel_rfl) ?hQE44 ?hyE44 hHeld ?restE44
                    case hiE44 =>
                      simp only [List.getElem?_toArray, List.getElem?_cons_succ, List.getElem?_cons_zero]
                      rfl
                    case hQE44 => exact fun _ _ _ h => h
                    case hyE44 =>
                      refine Or.inl ⟨by rfl, ?_⟩
                      intro w hSw
                      go_simp
                    try simp only [Act.put, List.setIfInBounds_toArray, List.set_cons_zero, List.set_cons_succ]
                    refine wpAnyH_take (i := 45) (oi := ?oiE45) (v := (.pointer (some ⟨bk, o + M * 21, none⟩))) ?hiE45 (by kernel_rfl) (by kernel_rfl) (by kernel_rfl) ?hQE45 ?hyE45 hHeld ?restE45
                    case hiE45 =>
                      simp only [List.getElem?_toArray, List.getElem?_cons_succ, List.getElem?_cons_zero]
                      rfl
                    case hQE45 => exact fun _ _ _ h => h
                    case hyE45 =>
                      refine Or.inl ⟨by rfl, ?_⟩
                      intro w hSw
                      go_simp
                    try simp only [Act.put, List.setIfInBounds_toArray, List.set_cons_zero, List.set_cons_succ]
                    refine wpAnyH_take (i := 46) (oi := ?oiE46) (v := (.pointer (some ⟨bk, o + M * 21, none⟩))) ?hiE46 (by kernel_rfl) (by kernel_rfl) (by kernel_rfl) ?hQE46 ?hyE46 hHeld ?restE46
                    case hiE46 =>
                      simp only [List.getElem?_toArray, List.getElem?_cons_succ, List.getElem?_cons_zero]
                      rfl
                    case hQE46 => exact fun _ _ _ h => h
                    case hyE46 =>
                      refine Or.inl ⟨by rfl, ?_⟩
                      intro w hSw
                      go_simp
                    try simp only [Act.put, List.setIfInBounds_toArray, List.set_cons_zero, List.set_cons_succ]
                    refine wpAnyH_take (i := 47) (oi := ?oiE47) (v := (.pointer (some ⟨bk, o + M * 21 + 1, none⟩))) ?hiE47 (by kernel_rfl) (by kernel_rfl) (by kernel_rfl) ?hQE47 ?hyE47 hHeld ?restE47
                    case hiE47 =>
                      simp only [List.getElem?_toArray, List.getElem?_cons_succ, List.getElem?_cons_zero]
                      rfl
                    case hQE47 => exact fun _ _ _ h => h
                    case hyE47 =>
                      refine Or.inl ⟨by rfl, ?_⟩
                      intro w hSw
                      go_simp
                    try simp only [Act.put, List.setIfInBounds_toArray, List.set_cons_zero, List.set_cons_succ]
                    refine wpAnyH_take (i := 48) (oi := ?oiE48) (v := (.string ri.m.pre)) ?hiE48 (by kernel_rfl) (by kernel_rfl) (by kernel_rfl) ?hQE48 ?hyE48 hHeld ?restE48
                    case hiE48 =>
                      simp only [List.getElem?_toArray, List.getElem?_cons_succ, List.getElem?_cons_zero]
                      rfl
                    case hQE48 => exact fun _ _ _ h => h
                    case hyE48 =>
                      refine Or.inl ⟨by rfl, ?_⟩
                      intro w hSw
                      have hcc := hSw.out.ch.cell f1 (by simp)
                      go_simp
                    try simp only [Act.put, List.setIfInBounds_toArray, List.set_cons_zero, List.set_cons_succ]
                    refine wpAnyH_take (i := 49) (oi := ?oiE49) (v := (.int .i64 (ri.m.pre.size : Int))) ?hiE49 (by kernel_rfl) (by kernel_rfl) (by kernel_rfl) ?hQE49 ?hyE49 hHeld ?restE49
                    case hiE49 =>
                      simp only [List.getElem?_toArray, List.getElem?_cons_succ, List.getElem?_cons_zero]
                      rfl
                    case hQE49 => exact fun _ _ _ h => h
                    case hyE49 =>
                      refine Or.inl ⟨by rfl, ?_⟩
                      intro w hSw
                      go_simp
                    try simp only [Act.put, List.setIfInBounds_toArray, List.set_cons_zero, List.set_cons_succ]
                    refine wpAnyH_take (i := 50) (oi := ?oiE50) (v := (.bool false)) ?hiE50 (by kernel_rfl) (by kernel_rfl) (by kernel_rfl) ?hQE50 ?hyE50 hHeld ?restE50
                    case hiE50 =>
                      simp only [List.getElem?_toArray, List.getElem?_cons_succ, List.getElem?_cons_zero]
                      rfl
                    case hQE50 => exact fun _ _ _ h => h
                    case hyE50 =>
                      refine Or.inl ⟨by rfl, ?_⟩
                      intro w hSw
                      go_simp
                    try simp only [Act.put, List.setIfInBounds_toArray, List.set_cons_zero, List.set_cons_succ]
                    refine wpAnyH_take (i := 51) (oi := ?oiE51) (v := (.bool false)) ?hiE51 (by kernel_rfl) (by kernel_rfl) (by kernel_rfl) ?hQE51 ?hyE51 hHeld ?restE51
                    case hiE51 =>
                      simp only [List.getElem?_toArray, List.getElem?_cons_succ, List.getElem?_cons_zero]
                      rfl
                    case hQE51 => exact fun _ _ _ h => h
                    case hyE51 =>
                      refine Or.inl ⟨by rfl, ?_⟩
                      intro w hSw
                      go_simp
                    try simp only [Act.put, List.setIfInBounds_toArray, List.set_cons_zero, List.set_cons_succ]
                    refine wpAnyH_take (i := 52) (oi := ?oiE52) (v := (.bool false)) ?hiE52 (by kernel_rfl) (by kernel_rfl) (by kernel_rfl) ?hQE52 ?hyE52 hHeld ?restE52
                    case hiE52 =>
                      simp only [List.getElem?_toArray, List.getElem?_cons_succ, List.getElem?_cons_zero]
                      rfl
                    case hQE52 => exact fun _ _ _ h => h
                    case hyE52 =>
                      refine Or.inl ⟨by rfl, ?_⟩
                      intro w hSw
                      go_simp
                    try simp only [Act.put, List.setIfInBounds_toArray, List.set_cons_zero, List.set_cons_succ]
                    refine wpAnyH_take (i := 53) (oi := ?oiE53) (v := (.bool false)) ?hiE53 (by kernel_rfl) (by kernel_rfl) (by kernel_rfl) ?hQE53 ?hyE53 hHeld ?restE53
                    case hiE53 =>
                      simp only [List.getElem?_toArray, List.getElem?_cons_succ, List.getElem?_cons_zero]
                      rfl
                    case hQE53 => exact fun _ _ _ h => h
                    case hyE53 =>
                      refine Or.inl ⟨by rfl, ?_⟩
                      intro w hSw
                      go_simp
                    try simp only [Act.put, List.setIfInBounds_toArray, List.set_cons_zero, List.set_cons_succ]
                    refine wpAnyH_done (by kernel_rfl) ?_ _
                    go_wp2_with fail
                    go_roundw
                    case rel => exact ⟨k + 1, by go_num, by omega, Lib.hid ⟨HS.out.cb, HS.out.hb, HS.out.ch⟩⟩
                    case measure => simp [intOf]; omega
                  · have hki : ¬ (k : Int) < (M : Int) := by omega
                    clear b2
                    refine wp_region_held_drew (S := fun W => Hid (SP b g p (cfRow c (.slice A c.hosts.length cap) (.slice (some ⟨bk, o, none⟩) c.routes.length cap2)) (hdRow h fv) (rtRow r (.slice An ln cn) (.slice Ao lo co)) w W)) (by kernel_rfl) HS (fun hHeld => ?_)
                    refine wpAnyH_take (i := 0) (oi := ?oiD0) (v := (.pointer (some ⟨p, 0, none⟩))) ?hiD0 (by kernel_rfl) (by kernel_rfl) (by kernel_rfl) ?hQD0 ?hyD0 hHeld ?restD0
                    case hiD0 =>
                      simp only [List.getElem?_toArray, List.getElem?_cons_zero]
                      rfl
                    case hQD0 => exact fun _ _ _ h => h
                    case hyD0 =>
                      refine Or.inl ⟨by rfl, ?_⟩
                      intro w hSw
                      go_simp
                    try simp only [Act.put, List.setIfInBounds_toArray, List.set_cons_zero, List.set_cons_succ]
                    refine wpAnyH_take (i := 1) (oi := ?oiD1) (v := .agg (maRow r.m (.slice An ln cn)).toArray) ?hiD1 (by kernel_rfl) (by kernel_rfl) (by kernel_rfl) ?hQD1 ?hyD1 hHeld ?restD1
                    case hiD1 =>
                      simp only [List.getElem?_toArray, List.getElem?_cons_succ, List.getElem?_cons_zero]
                      rfl
                    case hQD1 => exact fun _ _ _ h => h
                    case hyD1 =>
                      exact yields_row (by rfl) 24 _ rfl ⟨p, 0, none⟩ _ rfl (fun w hSw => mt_load hSw.out.pb)
                    try simp only [Act.put, List.setIfInBounds_toArray, List.set_cons_zero, List.set_cons_succ]
                    refine wpAnyH_take (i := 2) (oi := ?oiD2) (v := .agg (hdRow h fv).toArray) ?hiD2 (by kernel_rfl) (by kernel_rfl) (by kernel_rfl) ?hQD2 ?hyD2 hHeld ?restD2
                    case hiD2 =>
                      simp only [List.getElem?_toArray, List.getElem?_cons_succ, List.getElem?_cons_zero]
                      rfl
                    case hQD2 => exact fun _ _ _ h => h
                    case hyD2 =>
                      exact yields_row (by rfl) 27 _ rfl ⟨g, 0, none⟩ _ rfl (fun w hSw => hd_load hSw.out.hb)
                    try simp only [Act.put, List.setIfInBounds_toArray, List.set_cons_zero, List.set_cons_succ]
                    refine wpAnyH_take (i := 3) (oi := ?oiD3) (v := (.string ho)) ?hiD3 (by kernel_rfl) (by kernel_rfl) (by kernel_rfl) ?hQD3 ?hyD3 hHeld ?restD3
                    case hiD3 =>
                      simp only [List.getElem?_toArray, List.getElem?_cons_succ, List.getElem?_cons_zero]
                      rfl
                    case hQD3 => exact fun _ _ _ h => h
                    case hyD3 =>
                      refine Or.inl ⟨by rfl, ?_⟩
                      intro w hSw
                      go_simp
                    try simp only [Act.put, List.setIfInBounds_toArray, List.set_cons_zero, List.set_cons_succ]
                    refine wpAnyH_take (i := 4) (oi := ?oiD4) (v := (.string pa)) ?hiD4 (by kernel_rfl) (by kernel_rfl) (by kernel_rfl) ?hQD4 ?hyD4 hHeld ?restD4
                    case hiD4 =>
                      simp only [List.getElem?_toArray, List.getElem?_cons_succ, List.getElem?_cons_zero]
                      rfl
                    case hQD4 => exact fun _ _ _ h => h
                    case hyD4 =>
                      refine Or.inl ⟨by rfl, ?_⟩
                      intro w hSw
                      go_simp
                    try simp only [Act.put, List.setIfInBounds_toArray, List.set_cons_zero, List.set_cons_succ]
                    refine wpAnyH_ready (rs := [5]) (by kernel_rfl) (by simp) ?_
                    refine AllReadyH.cons rfl (fun K hK => ?_) AllReadyH.nil
                    go_simp
                    refine (takesM_any r.m h (.slice An ln cn) fv ho pa _ (Lib.hid (HTR.out.chg HC.out)) (Lib.hid (hfs.out.chg HC.out)) HRS hhz hos pas true HT.out).mono ?_
                    rintro e w3 ⟨rfl, H3⟩
                    have HC3 := Lib.hid (HC.out.trans H3.out (by simp))
                    have HS3 := Lib.hid (HS.out.chg H3.out)
                    clear HC HS
                    have HC := HC3
                    have HS := HS3
                    clear HC3 HS3
                    go_wp2_with fail
                    refine hK.out _ _ HS (fun hHeld => ?_)
                    clear hK K
                    try simp only [Act.put, List.setIfInBounds_toArray, List.set_cons_zero, List.set_cons_succ]
                    refine wpAnyH_take (i := 6) (oi := ?oiD6) (v := (.bool true)) ?hiD6 (by kernel_rfl) (by kernel_rfl) (by kernel_rfl) ?hQD6 ?hyD6 hHeld ?restD6
                    case hiD6 =>
                      simp only [List.getElem?_toArray, List.getElem?_cons_succ, List.getElem?_cons_zero]
                      rfl
                    case hQD6 => exact fun _ _ _ h => h
                    case hyD6 =>
                      refine Or.inl ⟨by rfl, ?_⟩
                      intro w hSw
                      go_simp
                    try simp only [Act.put, List.setIfInBounds_toArray, List.set_cons_zero, List.set_cons_succ]
                    refine wpAnyH_take (i := 7) (oi := ?oiD7) (v := (.pointer (some ⟨p, 0, none⟩))) ?hiD7 (by kernel_rfl) (by kernel_rfl) (by kernel_rfl) ?hQD7 ?hyD7 hHeld ?restD7
                    case hiD7 =>
                      simp only [List.getElem?_toArray, List.getElem?_cons_succ, List.getElem?_cons_zero]
                      rfl
                    case hQD7 => exact fun _ _ _ h => h
                    case hyD7 =>
                      refine Or.inl ⟨by rfl, ?_⟩
                      intro w hSw
                      go_simp
                    try simp only [Act.put, List.setIfInBounds_toArray, List.set_cons_zero, List.set_cons_succ]
                    refine wpAnyH_take (i := 8) (oi := ?oiD8) (v := (.pointer (some ⟨p, 0, none⟩))) ?hiD8 (by kernel_rfl) (by kernel_rfl) (by kernel_rfl) ?hQD8 ?hyD8 hHeld ?restD8
                    case hiD8 =>
                      simp only [List.getElem?_toArray, List.getElem?_cons_succ, List.getElem?_cons_zero]
                      rfl
                    case hQD8 => exact fun _ _ _ h => h
                    case hyD8 =>
                      refine Or.inl ⟨by rfl, ?_⟩
                      intro w hSw
                      go_simp
                    try simp only [Act.put, List.setIfInBounds_toArray, List.set_cons_zero, List.set_cons_succ]
                    refine wpAnyH_take (i := 9) (oi := ?oiD9) (v := (.string r.m.host)) ?hiD9 (by kernel_rfl) (by kernel_rfl) (by kernel_rfl) ?hQD9 ?hyD9 hHeld ?restD9
                    case hiD9 =>
                      simp only [List.getElem?_toArray, List.getElem?_cons_succ, List.getElem?_cons_zero]
                      rfl
                    case hQD9 => exact fun _ _ _ h => h
                    case hyD9 =>
                      refine Or.inl ⟨by rfl, ?_⟩
                      intro w hSw
                      have hcc := hSw.out.pb.cell 0 _ rfl
                      go_simp
                    try simp only [Act.put, List.setIfInBounds_toArray, List.set_cons_zero, List.set_cons_succ]
                    refine wpAnyH_take (i := 10) (oi := ?oiD10) (v := (.pointer (some ⟨b, 1, none⟩))) ?hiD10 (by kernel_rfl) (by kernel_rfl) (by kernel_rfl) ?hQD10 ?hyD10 hHeld ?restD10
                    case hiD10 =>
                      simp only [List.getElem?_toArray, List.getElem?_cons_succ, List.getElem?_cons_zero]
                      rfl
                    case hQD10 => exact fun _ _ _ h => h
                    case hyD10 =>
                      refine Or.inl ⟨by rfl, ?_⟩
                      intro w hSw
                      go_simp
                    try simp only [Act.put, List.setIfInBounds_toArray, List.set_cons_zero, List.set_cons_succ]
                    refine wpAnyH_take (i := 11) (oi := ?oiD11) (v := (.slice (some ⟨bk, o, none⟩) c.routes.length cap2)) ?hiD11 (by kernel_rfl) (by kernel_rfl) (by kernel_rfl) ?hQD11 ?hyD11 hHeld ?restD11
                    case hiD11 =>
                      simp only [List.getElem?_toArray, List.getElem?_cons_succ, List.getElem?_cons_zero]
                      rfl
                    case hQD11 => exact fun _ _ _ h => h
                    case hyD11 =>
                      refine Or.inl ⟨by rfl, ?_⟩
                      intro w hSw
                      have hcc := hSw.out.cb.cell 1 _ rfl
                      go_simp
                    try simp only [Act.put, List.setIfInBounds_toArray, List.set_cons_zero, List.set_cons_succ]
                    refine wpAnyH_take (i := 12) (oi := ?oiD12) (v := (.int .i64 (M : Int))) ?hiD12 (by kernel_rfl) (by kernel_rfl) (by kernel_rfl) ?hQD12 ?hyD12 hHeld ?restD12
                    case hiD12 =>
                      simp only [List.getElem?_toArray, List.getElem?_cons_succ, List.getElem?_cons_zero]
                      rfl
                    case hQD12 => exact fun _ _ _ h => h
                    case hyD12 =>
                      refine Or.inl ⟨by rfl, ?_⟩
                      intro w hSw
                      go_simp
                    try simp only [Act.put, List.setIfInBounds_toArray, List.set_cons_zero, List.set_cons_succ]
                    refine wpAnyH_take (i := 13) (oi := ?oiD13) (v := (.pointer (some ⟨bk, o + M * 21, none⟩))) ?hiD13 (by kernel_rfl) (by kernel_rfl) (by kernel_rfl) ?hQD13 ?hyD13 hHeld ?restD13
                    case hiD13 =>
                      simp only [List.getElem?_toArray, List.getElem?_cons_succ, List.getElem?_cons_zero]
                      rfl
                    case hQD13 => exact fun _ _ _ h => h
                    case hyD13 =>
                      refine Or.inl ⟨by rfl, ?_⟩
                      intro w hSw
                      go_simp
                    try simp only [Act.put, List.setIfInBounds_toArray, List.set_cons_zero, List.set_cons_succ]
                    refine wpAnyH_take (i := 14) (oi := ?oiD14) (v := (.pointer (some ⟨bk, o + M * 21, none⟩))) ?hiD14 (by kernel_rfl) (by kernel_rfl) (by kernel_rfl) ?hQD14 ?hyD14 hHeld ?restD14
                    case hiD14 =>
                      simp only [List.getElem?_toArray, List.getElem?_cons_succ, List.getElem?_cons_zero]
                      rfl
                    case hQD14 => exact fun _ _ _ h => h
                    case hyD14 =>
                      refine Or.inl ⟨by rfl, ?_⟩
                      intro w hSw
                      go_simp
                    try simp only [Act.put, List.setIfInBounds_toArray, List.set_cons_zero, List.set_cons_succ]
                    refine wpAnyH_take (i := 15) (oi := ?oiD15) (v := (.pointer (some ⟨bk, o + M * 21, none⟩))) ?hiD15 (by kernel_rfl) (by kernel_rfl) (by kernel_rfl) ?hQD15 ?hyD15 hHeld ?restD15
                    case hiD15 =>
                      simp only [List.getElem?_toArray, List.getElem?_cons_succ, List.getElem?_cons_zero]
                      rfl
                    case hQD15 => exact fun _ _ _ h => h
                    case hyD15 =>
                      refine Or.inl ⟨by rfl, ?_⟩
                      intro w hSw
                      go_simp
                    try simp only [Act.put, List.setIfInBounds_toArray, List.set_cons_zero, List.set_cons_succ]
                    refine wpAnyH_take (i := 16) (oi := ?oiD16) (v := (.string ri.m.host)) ?hiD16 (by kernel_rfl) (by kernel_rfl) (by kernel_rfl) ?hQD16 ?hyD16 hHeld ?restD16
                    case hiD16 =>
                      simp only [List.getElem?_toArray, List.getElem?_cons_succ, List.getElem?_cons_zero]
                      rfl
                    case hQD16 => exact fun _ _ _ h => h
                    case hyD16 =>
                      refine Or.inl ⟨by rfl, ?_⟩
                      intro w hSw
                      have hcc := hSw.out.ch.cell f0 (by simp)
                      go_simp
                    try simp only [Act.put, List.setIfInBounds_toArray, List.set_cons_zero, List.set_cons_succ]
                    refine wpAnyH_take (i := 17) (oi := ?oiD17) (v := (.bool true)) ?hiD17 (by kernel_rfl) (by kernel_rfl) (by kernel_rfl) ?hQD17 ?hyD17 hHeld ?restD17
                    case hiD17 =>
                      simp only [List.getElem?_toArray, List.getElem?_cons_succ, List.getElem?_cons_zero]
                      rfl
                    case hQD17 => exact fun _ _ _ h => h
                    case hyD17 =>
                      refine Or.inl ⟨by rfl, ?_⟩
                      intro w hSw
                      go_simp
                    try simp only [Act.put, List.setIfInBounds_toArray, List.set_cons_zero, List.set_cons_succ]
                    refine wpAnyH_take (i := 18) (oi := ?oiD18) (v := (.bool true)) ?hiD18 (by kernel_rfl) (by kernel_rfl) (by kernel_rfl) ?hQD18 ?hyD18 hHeld ?restD18
                    case hiD18 =>
                      simp only [List.getElem?_toArray, List.getElem?_cons_succ, List.getElem?_cons_zero]
                      rfl
                    case hQD18 => exact fun _ _ _ h => h
                    case hyD18 =>
                      refine Or.inl ⟨by rfl, ?_⟩
                      intro w hSw
                      go_simp
                    try simp only [Act.put, List.setIfInBounds_toArray, List.set_cons_zero, List.set_cons_succ]
                    refine wpAnyH_take (i := 19) (oi := ?oiD19) (v := (.bool true)) ?hiD19 (by kernel_rfl) (by kernel_rfl) (by kernel_rfl) ?hQD19 ?hyD19 hHeld ?restD19
                    case hiD19 =>
                      simp only [List.getElem?_toArray, List.getElem?_cons_succ, List.getElem?_cons_zero]
                      rfl
                    case hQD19 => exact fun _ _ _ h => h
                    case hyD19 =>
                      refine Or.inl ⟨by rfl, ?_⟩
                      intro w hSw
                      go_simp
                    try simp only [Act.put, List.setIfInBounds_toArray, List.set_cons_zero, List.set_cons_succ]
                    refine wpAnyH_take (i := 20) (oi := ?oiD20) (v := (.pointer (some ⟨p, 0, none⟩))) ?hiD20 (by kernel_rfl) (by kernel_rfl) (by kernel_rfl) ?hQD20 ?hyD20 hHeld ?restD20
                    case hiD20 =>
                      simp only [List.getElem?_toArray, List.getElem?_cons_succ, List.getElem?_cons_zero]
                      rfl
                    case hQD20 => exact fun _ _ _ h => h
                    case hyD20 =>
                      refine Or.inl ⟨by rfl, ?_⟩
                      intro w hSw
                      go_simp
                    try simp only [Act.put, List.setIfInBounds_toArray, List.set_cons_zero, List.set_cons_succ]
                    refine wpAnyH_take (i := 21) (oi := ?oiD21) (v := (.pointer (some ⟨p, 1, none⟩))) ?hiD21 (by kernel_rfl) (by kernel_rfl) (by kernel_rfl) ?hQD21 ?hyD21 hHeld ?restD21
                    case hiD21 =>
                      simp only [List.getElem?_toArray, List.getElem?_cons_succ, List.getElem?_cons_zero]
                      rfl
                    case hQD21 => exact fun _ _ _ h => h
                    case hyD21 =>
                      refine Or.inl ⟨by rfl, ?_⟩
                      intro w hSw
                      go_simp
                    try simp only [Act.put, List.setIfInBounds_toArray, List.set_cons_zero, List.set_cons_succ]
                    refine wpAnyH_take (i := 22) (oi := ?oiD22) (v := (.string r.m.pre)) ?hiD22 (by kernel_rfl) (by kernel_rfl) (by kernel_rfl) ?hQD22 ?hyD22 hHeld ?restD22
                    case hiD22 =>
                      simp only [List.getElem?_toArray, List.getElem?_cons_succ, List.getElem?_cons_zero]
                      rfl
                    case hQD22 => exact fun _ _ _ h => h
                    case hyD22 =>
                      refine Or.inl ⟨by rfl, ?_⟩
                      intro w hSw
                      have hcc := hSw.out.pb.cell 1 _ rfl
                      go_simp
                    try simp only [Act.put, List.setIfInBounds_toArray, List.set_cons_zero, List.set_cons_succ]
                    refine wpAnyH_take (i := 23) (oi := ?oiD23) (v := (.int .i64 (r.m.pre.size : Int))) ?hiD23 (by kernel_rfl) (by kernel_rfl) (by kernel_rfl) ?hQD23 ?hyD23 hHeld ?restD23
                    case hiD23 =>
                      simp only [List.getElem?_toArray, List.getElem?_cons_succ, List.getElem?_cons_zero]
                      rfl
                    case hQD23 => exact fun _ _ _ h => h
                    case hyD23 =>
                      refine Or.inl ⟨by rfl, ?_⟩
                      intro w hSw
                      go_simp
                    try simp only [Act.put, List.setIfInBounds_toArray, List.set_cons_zero, List.set_cons_succ]
                    refine wpAnyH_take (i := 24) (oi := ?oiD24) (v := (.pointer (some ⟨b, 1, none⟩))) ?hiD24 (by kernel_rfl) (by kernel_rfl) (by kernel_rfl) ?hQD24 ?hyD24 hHeld ?restD24
                    case hiD24 =>
                      simp only [List.getElem?_toArray, List.getElem?_cons_succ, List.getElem?_cons_zero]
                      rfl
                    case hQD24 => exact fun _ _ _ h => h
                    case hyD24 =>
                      refine Or.inl ⟨by rfl, ?_⟩
                      intro w hSw
                      go_simp
                    try simp only [Act.put, List.setIfInBounds_toArray, List.set_cons_zero, List.set_cons_succ]
                    refine wpAnyH_take (i := 25) (oi := ?oiD25) (v := (.slice (some ⟨bk, o, none⟩) c.routes.length cap2)) ?hiD25 (by kernel_rfl) (by kernel_rfl) (by kernel_rfl) ?hQD25 ?hyD25 hHeld ?restD25
                    case hiD25 =>
                      simp only [List.getElem?_toArray, List.getElem?_cons_succ, List.getElem?_cons_zero]
                      rfl
                    case hQD25 => exact fun _ _ _ h => h
                    case hyD25 =>
                      refine Or.inl ⟨by rfl, ?_⟩
                      intro w hSw
                      have hcc := hSw.out.cb.cell 1 _ rfl
                      go_simp
                    try simp only [Act.put, List.setIfInBounds_toArray, List.set_cons_zero, List.set_cons_succ]
                    refine wpAnyH_take (i := 26) (oi := ?oiD26) (v := (.int .i64 (M : Int))) ?hiD26 (by kernel_rfl) (by kernel_rfl) (by kernel_rfl) ?hQD26 ?hyD26 hHeld ?restD26
                    case hiD26 =>
                      simp only [List.getElem?_toArray, List.getElem?_cons_succ, List.getElem?_cons_zero]
                      rfl
                    case hQD26 => exact fun _ _ _ h => h
                    case hyD26 =>
                      refine Or.inl ⟨by rfl, ?_⟩
                      intro w hSw
                      go_simp
                    try simp only [Act.put, List.setIfInBounds_toArray, List.set_cons_zero, List.set_cons_succ]
                    refine wpAnyH_take (i := 27) (oi := ?oiD27) (v := (.pointer (some ⟨bk, o + M * 21, none⟩))) ?hiD27 (by kernel_rfl) (by kernel_rfl) (by kernel_rfl) ?hQD27 ?hyD27 hHeld ?restD27
                    case hiD27 =>
                      simp only [List.getElem?_toArray, List.getElem?_cons_succ, List.getElem?_cons_zero]
                      rfl
                    case hQD27 => exact fun _ _ _ h => h
                    case hyD27 =>
                      refine Or.inl ⟨by rfl, ?_⟩
                      intro w hSw
                      go_simp
                    try simp only [Act.put, List.setIfInBounds_toArray, List.set_cons_zero, List.set_cons_succ]
                    refine wpAnyH_take (i := 28) (oi := ?oiD28) (v := (.pointer (some ⟨bk, o + M * 21, none⟩))) ?hiD28 (by kernel_rfl) (by kernel_rfl) (by kernel_rfl) ?hQD28 ?hyD28 hHeld ?restD28
                    case hiD28 =>
                      simp only [List.getElem?_toArray, List.getElem?_cons_succ, List.getElem?_cons_zero]
                      rfl
                    case hQD28 => exact fun _ _ _ h => h
                    case hyD28 =>
                      refine Or.inl ⟨by rfl, ?_⟩
                      intro w hSw
                      go_simp
                    try simp only [Act.put, List.setIfInBounds_toArray, List.set_cons_zero, List.set_cons_succ]
                    refine wpAnyH_take (i := 29) (oi := ?oiD29) (v := (.pointer (some ⟨bk, o + M * 21 + 1, none⟩))) ?hiD29 (by kernel_rfl) (by kernel_rfl) (by kernel_rfl) ?hQD29 ?hyD29 hHeld ?restD29
                    case hiD29 =>
                      simp only [List.getElem?_toArray, List.getElem?_cons_succ, List.getElem?_cons_zero]
                      rfl
                    case hQD29 => exact fun _ _ _ h => h
                    case hyD29 =>
                      refine Or.inl ⟨by rfl, ?_⟩
                      intro w hSw
                      go_simp
                    try simp only [Act.put, List.setIfInBounds_toArray, List.set_cons_zero, List.set_cons_succ]
                    refine wpAnyH_take (i := 30) (oi := ?oiD30) (v := (.string ri.m.pre)) ?hiD30 (by kernel_rfl) (by kernel_rfl) (by kernel_rfl) ?hQD30 ?hyD30 hHeld ?restD30
                    case hiD30 =>
                      simp only [List.getElem?_toArray, List.getElem?_cons_succ, List.getElem?_cons_zero]
                      rfl
                    case hQD30 => exact fun _ _ _ h => h
                    case hyD30 =>
                      refine Or.inl ⟨by rfl, ?_⟩
                      intro w hSw
                      have hcc := hSw.out.ch.cell f1 (by simp)
                      go_simp
                    try simp only [Act.put, List.setIfInBounds_toArray, List.set_cons_zero, List.set_cons_succ]
                    refine wpAnyH_take (i := 31) (oi := ?oiD31) (v := (.int .i64 (ri.m.pre.size : Int))) ?hiD31 (by kernel_rfl) (by kernel_rfl) (by kernel_rfl) ?hQD31 ?hyD31 hHeld ?restD31
                    case hiD31 =>
                      simp only [List.getElem?_toArray, List.getElem?_cons_succ, List.getElem?_cons_zero]
                      rfl
                    case hQD31 => exact fun _ _ _ h => h
                    case hyD31 =>
                      refine Or.inl ⟨by rfl, ?_⟩
                      intro w hSw
                      go_simp
                    try simp only [Act.put, List.setIfInBounds_toArray, List.set_cons_zero, List.set_cons_succ]
                    refine wpAnyH_take (i := 32) (oi := ?oiD32) (v := (.bool false)) ?hiD32 (by kernel_rfl) (by kernel_rfl) (by kernel_rfl) ?hQD32 ?hyD32 hHeld ?restD32
                    case hiD32 =>
                      simp only [List.getElem?_toArray, List.getElem?_cons_succ, List.getElem?_cons_zero]
                      rfl
                    case hQD32 => exact fun _ _ _ h => h
                    case hyD32 =>
                      refine Or.inl ⟨by rfl, ?_⟩
                      intro w hSw
                      go_simp
                    try simp only [Act.put, List.setIfInBounds_toArray, List.set_cons_zero, List.set_cons_succ]
                    refine wpAnyH_take (i := 33) (oi := ?oiD33) (v := (.bool false)) ?hiD33 (by kernel_rfl) (by kernel_rfl) (by kernel_rfl) ?hQD33 ?hyD33 hHeld ?restD33
                    case hiD33 =>
                      simp only [List.getElem?_toArray, List.getElem?_cons_succ, List.getElem?_cons_zero]
                      rfl
                    case hQD33 => exact fun _ _ _ h => h
                    case hyD33 =>
                      refine Or.inl ⟨by rfl, ?_⟩
                      intro w hSw
                      go_simp
                    try simp only [Act.put, List.setIfInBounds_toArray, List.set_cons_zero, List.set_cons_succ]
                    refine wpAnyH_take (i := 34) (oi := ?oiD34) (v := (.int .i64 (k : Int))) ?hiD34 (by kernel_rfl) (by kernel_rfl) (by kernel_rfl) ?hQD34 ?hyD34 hHeld ?restD34
                    case hiD34 =>
                      simp only [List.getElem?_toArray, List.getElem?_cons_succ, List.getElem?_cons_zero]
                      rfl
                    case hQD34 => exact fun _ _ _ h => h
                    case hyD34 =>
                      refine Or.inl ⟨by rfl, ?_⟩
                      intro w hSw
                      go_simp
                    try simp only [Act.put, List.setIfInBounds_toArray, List.set_cons_zero, List.set_cons_succ]
                    refine wpAnyH_take (i := 35) (oi := ?oiD35) (v := (.int .i64 (M : Int))) ?hiD35 (by kernel_rfl) (by kernel_rfl) (by kernel_rfl) ?hQD35 ?hyD35 hHeld ?restD35
                    case hiD35 =>
                      simp only [List.getElem?_toArray, List.getElem?_cons_succ, List.getElem?_cons_zero]
                      rfl
                    case hQD35 => exact fun _ _ _ h => h
                    case hyD35 =>
                      refine Or.inl ⟨by rfl, ?_⟩
                      intro w hSw
                      go_simp
                    try simp only [Act.put, List.setIfInBounds_toArray, List.set_cons_zero, List.set_cons_succ]
                    refine wpAnyH_take (i := 36) (oi := ?oiD36) (v := (.bool false)) ?hiD36 (by kernel_rfl) (by kernel_rfl) (by kernel_rfl) ?hQD36 ?hyD36 hHeld ?restD36
                    case hiD36 =>
                      simp only [List.getElem?_toArray, List.getElem?_cons_succ, List.getElem?_cons_zero]
                      rfl
                    case hQD36 => exact fun _ _ _ h => h
                    case hyD36 =>
                      refine Or.inl ⟨by rfl, ?_⟩
                      intro w hSw
                      go_simp
                    try simp only [Act.put, List.setIfInBounds_toArray, List.set_cons_zero, List.set_cons_succ]
                    refine wpAnyH_take (i := 37) (oi := ?oiD37) (v := (.bool false)) ?hiD37 (by kernel_rfl) (by kernel_rfl) (by kernel_rfl) ?hQD37 ?hyD37 hHeld ?restD37
                    case hiD37 =>
                      simp only [List.getElem?_toArray, List.getElem?_cons_succ, List.getElem?_cons_zero]
                      rfl
                    case hQD37 => exact fun _ _ _ h => h
                    case hyD37 =>
                      refine Or.inl ⟨by rfl, ?_⟩
                      intro w hSw
                      go_simp
                    try simp only [Act.put, List.setIfInBounds_toArray, List.set_cons_zero, List.set_cons_succ]
                    refine wpAnyH_take (i := 38) (oi := ?oiD38) (v := undef) ?hiD38 (by kernel_rfl) (by kernel_rfl) (by kernel_rfl) ?hQD38 ?hyD38 hHeld ?restD38
                    case hiD38 =>
                      simp only [List.getElem?_toArray, List.getElem?_cons_succ, List.getElem?_cons_zero]
                      rfl
                    case hQD38 => exact fun _ _ _ h => h
                    case hyD38 =>
                      exact Or.inr ⟨by rfl, rfl⟩
                    try simp only [Act.put, List.setIfInBounds_toArray, List.set_cons_zero, List.set_cons_succ]
                    refine wpAnyH_take (i := 39) (oi := ?oiD39) (v := undef) ?hiD39 (by kernel_rfl) (by kernel_rfl) (by kernel_rfl) ?hQD39 ?hyD39 hHeld ?restD39
                    case hiD39 =>
                      simp only [List.getElem?_toArray, List.getElem?_cons_succ, List.getElem?_cons_zero]
                      rfl
                    case hQD39 => exact fun _ _ _ h => h
                    case hyD39 =>
                      exact Or.inr ⟨by rfl, rfl⟩
                    try simp only [Act.put, List.setIfInBounds_toArray, List.set_cons_zero, List.set_cons_succ]
                    refine wpAnyH_take (i := 40) (oi := ?oiD40) (v := undef) ?hiD40 (by kernel_rfl) (by kernel_rfl) (by kernel_rfl) ?hQD40 ?hyD40 hHeld ?restD40
                    case hiD40 =>
                      simp only [List.getElem?_toArray, List.getElem?_cons_succ, List.getElem?_cons_zero]
                      rfl
                    case hQD40 => exact fun _ _ _ h => h
                    case hyD40 =>
                      exact Or.inr ⟨by rfl, rfl⟩
                    try simp only [Act.put, List.setIfInBounds_toArray, List.set_cons_zero, List.set_cons_succ]
                    refine wpAnyH_take (i := 41) (oi := ?oiD41) (v := undef) ?hiD41 (by kernel_rfl) (by kernel_rfl) (by kernel_rfl) ?hQD41 ?hyD41 hHeld ?restD41
                    case hiD41 =>
                      simp only [List.getElem?_toArray, List.getElem?_cons_succ, List.getElem?_cons_zero]
                      rfl
                    case hQD41 => exact fun _ _ _ h => h
                    case hyD41 =>
                      exact Or.inr ⟨by rfl, rfl⟩
                    try simp only [Act.put, List.setIfInBounds_toArray, List.set_cons_zero, List.set_cons_succ]
                    refine wpAnyH_take (i := 42) (oi := ?oiD42) (v := undef) ?hiD42 (by kernel_rfl) (by kernel_rfl) (by kernel_rfl) ?hQD42 ?hyD42 hHeld ?restD42
                    case hiD42 =>
                      simp only [List.getElem?_toArray, List.getElem?_cons_succ, List.getElem?_cons_zero]
                      rfl
                    case hQD42 => exact fun _ _ _ h => h
                    case hyD42 =>
                      exact Or.inr ⟨by rfl, rfl⟩
                    try simp only [Act.put, List.setIfInBounds_toArray, List.set_cons_zero, List.set_cons_succ]
                    refine wpAnyH_take (i := 43) (oi := ?oiD43) (v := undef) ?hiD43 (by kernel_rfl) (by kernel_rfl) (by kernel_rfl) ?hQD43 ?hyD43 hHeld ?restD43
                    case hiD43 =>
                      simp only [List.getElem?_toArray, List.getElem?_cons_succ, List.getElem?_cons_zero]
                      rfl
                    case hQD43 => exact fun _ _ _ h => h
                    case hyD43 =>
                      exact Or.inr ⟨by rfl, rfl⟩
                    try simp only [Act.put, List.setIfInBounds_toArray, List.set_cons_zero, List.set_cons_succ]
                    refine wpAnyH_take (i := 44) (oi := ?oiD44) (v := undef) ?hiD44 (by kernel_rfl) (by kernel_rfl) (by kernel_rfl) ?hQD44 ?hyD44 hHeld ?restD44
                    case hiD44 =>
                      simp only [List.getElem?_toArray, List.getElem?_cons_succ, List.getElem?_cons_zero]
                      rfl
                    case hQD44 => exact fun _ _ _ h => h
                    case hyD44 =>
                      exact Or.inr ⟨by rfl, rfl⟩
                    try simp only [Act.put, List.setIfInBounds_toArray, List.set_cons_zero, List.set_cons_succ]
                    refine wpAnyH_take (i := 45) (oi := ?oiD45) (v := undef) ?hiD45 (by kernel_rfl) (by kernel_rfl) (by kernel_rfl) ?hQD45 ?hyD45 hHeld ?restD45
                    case hiD45 =>
                      simp only [List.getElem?_toArray, List.getElem?_cons_succ, List.getElem?_cons_zero]
                      rfl
                    case hQD45 => exact fun _ _ _ h => h
                    case hyD45 =>
                      exact Or.inr ⟨by rfl, rfl⟩
                    try simp only [Act.put, List.setIfInBounds_toArray, List.set_cons_zero, List.set_cons_succ]
                    refine wpAnyH_take (i := 46) (oi := ?oiD46) (v := undef) ?hiD46 (by kernel_rfl) (by kernel_rfl) (by kernel_rfl) ?hQD46 ?hyD46 hHeld ?restD46
                    case hiD46 =>
                      simp only [List.getElem?_toArray, List.getElem?_cons_succ, List.getElem?_cons_zero]
                      rfl
                    case hQD46 => exact fun _ _ _ h => h
                    case hyD46 =>
                      exact Or.inr ⟨by rfl, rfl⟩
                    try simp only [Act.put, List.setIfInBounds_toArray, List.set_cons_zero, List.set_cons_succ]
                    refine wpAnyH_take (i := 47) (oi := ?oiD47) (v := undef) ?hiD47 (by kernel_rfl) (by kernel_rfl) (by kernel_rfl) ?hQD47 ?hyD47 hHeld ?restD47
                    case hiD47 =>
                      simp only [List.getElem?_toArray, List.getElem?_cons_succ, List.getElem?_cons_zero]
                      rfl
                    case hQD47 => exact fun _ _ _ h => h
                    case hyD47 =>
                      exact Or.inr ⟨by rfl, rfl⟩
                    try simp only [Act.put, List.setIfInBounds_toArray, List.set_cons_zero, List.set_cons_succ]
                    refine wpAnyH_take (i := 48) (oi := ?oiD48) (v := undef) ?hiD48 (by kernel_rfl) (by kernel_rfl) (by kernel_rfl) ?hQD48 ?hyD48 hHeld ?restD48
                    case hiD48 =>
                      simp only [List.getElem?_toArray, List.getElem?_cons_succ, List.getElem?_cons_zero]
                      rfl
                    case hQD48 => exact fun _ _ _ h => h
                    case hyD48 =>
                      exact Or.inr ⟨by rfl, rfl⟩
                    try simp only [Act.put, List.setIfInBounds_toArray, List.set_cons_zero, List.set_cons_succ]
                    refine wpAnyH_take (i := 49) (oi := ?oiD49) (v := undef) ?hiD49 (by kernel_rfl) (by kernel_rfl) (by kernel_rfl) ?hQD49 ?hyD49 hHeld ?restD49
                    case hiD49 =>
                      simp only [List.getElem?_toArray, List.getElem?_cons_succ, List.getElem?_cons_zero]
                      rfl
                    case hQD49 => exact fun _ _ _ h => h
                    case hyD49 =>
                      exact Or.inr ⟨by rfl, rfl⟩
                    try simp only [Act.put, List.setIfInBounds_toArray, List.set_cons_zero, List.set_cons_succ]
                    refine wpAnyH_take (i := 50) (oi := ?oiD50) (v := undef) ?hiD50 (by kernel_rfl) (by kernel_rfl) (by kernel_rfl) ?hQD50 ?hyD50 hHeld ?restD50
                    case hiD50 =>
                      simp only [List.getElem?_toArray, List.getElem?_cons_succ, List.getElem?_cons_zero]
                      rfl
                    case hQD50 => exact fun _ _ _ h => h
                    case hyD50 =>
                      exact Or.inr ⟨by rfl, rfl⟩
                    try simp only [Act.put, List.setIfInBounds_toArray, List.set_cons_zero, List.set_cons_succ]
                    refine wpAnyH_take (i := 51) (oi := ?oiD51) (v := (.bool false)) ?hiD51 (by kernel_rfl) (by kernel_rfl) (by kernel_rfl) ?hQD51 ?hyD51 hHeld ?restD51
                    case hiD51 =>
                      simp only [List.getElem?_toArray, List.getElem?_cons_succ, List.getElem?_cons_zero]
                      rfl
                    case hQD51 => exact fun _ _ _ h => h
                    case hyD51 =>
                      refine Or.inl ⟨by rfl, ?_⟩
                      intro w hSw
                      go_simp
                    try simp only [Act.put, List.setIfInBounds_toArray, List.set_cons_zero, List.set_cons_succ]
                    refine wpAnyH_take (i := 52) (oi := ?oiD52) (v := (.bool false)) ?hiD52 (by kernel_rfl) (by kernel_rfl) (by kernel_rfl) ?hQD52 ?hyD52 hHeld ?restD52
                    case hiD52 =>
                      simp only [List.getElem?_toArray, List.getElem?_cons_succ, List.getElem?_cons_zero]
                      rfl
                    case hQD52 => exact fun _ _ _ h => h
                    case hyD52 =>
                      refine Or.inl ⟨by rfl, ?_⟩
                      intro w hSw
                      go_simp
                    try simp only [Act.put, List.setIfInBounds_toArray, List.set_cons_zero, List.set_cons_succ]
                    refine wpAnyH_take (i := 53) (oi := ?oiD53) (v := (.bool false)) ?hiD53 (by kernel_rfl) (by kernel_rfl) (by kernel_rfl) ?hQD53 ?hyD53 hHeld ?restD53
                    case hiD53 =>
                      simp only [List.getElem?_toArray, List.getElem?_cons_succ, List.getElem?_cons_zero]
                      rfl
                    case hQD53 => exact fun _ _ _ h => h
                    case hyD53 =>
                      refine Or.inl ⟨by rfl, ?_⟩
                      intro w hSw
                      go_simp
                    try simp only [Act.put, List.setIfInBounds_toArray, List.set_cons_zero, List.set_cons_succ]
                    refine wpAnyH_done (by kernel_rfl) ?_ _
                    go_wp2_with fail
                    go_roundw
                    case rel => exact ⟨k + 1, by go_num, by omega, Lib.hid ⟨HS.out.cb, HS.out.hb, HS.out.ch⟩⟩
                    case measure => simp [intOf]; omega
                · have hq := eqb_false hh
                  clear hh
                  refine wp_region_held_drew (S := fun W => Hid (SP b g p (cfRow c (.slice A c.hosts.length cap) (.slice (some ⟨bk, o, none⟩) c.routes.length cap2)) (hdRow h fv) (rtRow r (.slice An ln cn) (.slice Ao lo co)) w W)) (by kernel_rfl) HS (fun hHeld => ?_)
                  refine wpAnyH_take (i := 0) (oi := ?oiB0) (v := (.pointer (some ⟨p, 0, none⟩))) ?hiB0 (by kernel_rfl) (by kernel_rfl) (by kernel_rfl) ?hQB0 ?hyB0 hHeld ?restB0
                  case hiB0 =>
                    simp only [List.getElem?_toArray, List.getElem?_cons_zero]
                    rfl
                  case hQB0 => exact fun _ _ _ h => h
                  case hyB0 =>
                    refine Or.inl ⟨by rfl, ?_⟩
                    intro w hSw
                    go_simp
                  try simp only [Act.put, List.setIfInBounds_toArray, List.set_cons_zero, List.set_cons_succ]
                  refine wpAnyH_take (i := 1) (oi := ?oiB1) (v := .agg (maRow r.m (.slice An ln cn)).toArray) ?hiB1 (by kernel_rfl) (by kernel_rfl) (by kernel_rfl) ?hQB1 ?hyB1 hHeld ?restB1
                  case hiB1 =>
                    simp only [List.getElem?_toArray, List.getElem?_cons_succ, List.getElem?_cons_zero]
                    rfl
                  case hQB1 => exact fun _ _ _ h => h
                  case hyB1 =>
                    exact yields_row (by rfl) 24 _ rfl ⟨p, 0, none⟩ _ rfl (fun w hSw => mt_load hSw.out.pb)
                  try simp only [Act.put, List.setIfInBounds_toArray, List.set_cons_zero, List.set_cons_succ]
                  refine wpAnyH_take (i := 2) (oi := ?oiB2) (v := .agg (hdRow h fv).toArray) ?hiB2 (by kernel_rfl) (by kernel_rfl) (by kernel_rfl) ?hQB2 ?hyB2 hHeld ?restB2
                  case hiB2 =>
                    simp only [List.getElem?_toArray, List.getElem?_cons_succ, List.getElem?_cons_zero]
                    rfl
                  case hQB2 => exact fun _ _ _ h => h
                  case hyB2 =>
                    exact yields_row (by rfl) 27 _ rfl ⟨g, 0, none⟩ _ rfl (fun w hSw => hd_load hSw.out.hb)
                  try simp only [Act.put, List.setIfInBounds_toArray, List.set_cons_zero, List.set_cons_succ]
                  refine wpAnyH_take (i := 3) (oi := ?oiB3) (v := (.string ho)) ?hiB3 (by kernel_rfl) (by kernel_rfl) (by kernel_rfl) ?hQB3 ?hyB3 hHeld ?restB3
                  case hiB3 =>
                    simp only [List.getElem?_toArray, List.getElem?_cons_succ, List.getElem?_cons_zero]
                    rfl
                  case hQB3 => exact fun _ _ _ h => h
                  case hyB3 =>
                    refine Or.inl ⟨by rfl, ?_⟩
                    intro w hSw
                    go_simp
                  try simp only [Act.put, List.setIfInBounds_toArray, List.set_cons_zero, List.set_cons_succ]
                  refine wpAnyH_take (i := 4) (oi := ?oiB4) (v := (.string pa)) ?hiB4 (by kernel_rfl) (by kernel_rfl) (by kernel_rfl) ?hQB4 ?hyB4 hHeld ?restB4
                  case hiB4 =>
                    simp only [List.getElem?_toArray, List.getElem?_cons_succ, List.getElem?_cons_zero]
                    rfl
                  case hQB4 => exact fun _ _ _ h => h
                  case hyB4 =>
                    refine Or.inl ⟨by rfl, ?_⟩
                    intro w hSw
                    go_simp
                  try simp only [Act.put, List.setIfInBounds_toArray, List.set_cons_zero, List.set_cons_succ]
                  refine wpAnyH_ready (rs := [5]) (by kernel_rfl) (by simp) ?_
                  refine AllReadyH.cons rfl (fun K hK => ?_) AllReadyH.nil
                  go_simp
                  refine (takesM_any r.m h (.slice An ln cn) fv ho pa _ (Lib.hid (HTR.out.chg HC.out)) (Lib.hid (hfs.out.chg HC.out)) HRS hhz hos pas true HT.out).mono ?_
                  rintro e w3 ⟨rfl, H3⟩
                  have HC3 := Lib.hid (HC.out.trans H3.out (by simp))
                  have HS3 := Lib.hid (HS.out.chg H3.out)
                  clear HC HS
                  have HC := HC3
                  have HS := HS3
                  clear HC3 HS3
                  go_wp2_with fail
                  refine hK.out _ _ HS (fun hHeld => ?_)
                  clear hK K
                  try simp only [Act.put, List.setIfInBounds_toArray, List.set_cons_zero, List.set_cons_succ]
                  refine wpAnyH_take (i := 6) (oi := ?oiB6) (v := (.bool true)) ?hiB6 (by kernel_rfl) (by kernel_rfl) (by kernel_rfl) ?hQB6 ?hyB6 hHeld ?restB6
                  case hiB6 =>
                    simp only [List.getElem?_toArray, List.getElem?_cons_succ, List.getElem?_cons_zero]
                    rfl
                  case hQB6 => exact fun _ _ _ h => h
                  case hyB6 =>
                    refine Or.inl ⟨by rfl, ?_⟩
                    intro w hSw
                    go_simp
                  try simp only [Act.put, List.setIfInBounds_toArray, List.set_cons_zero, List.set_cons_succ]
                  refine wpAnyH_take (i := 7) (oi := ?oiB7) (v := (.pointer (some ⟨p, 0, none⟩))) ?hiB7 (by kernel_rfl) (by kernel_rfl) (by kernel_rfl) ?hQB7 ?hyB7 hHeld ?restB7
                  case hiB7 =>
                    simp only [List.getElem?_toArray, List.getElem?_cons_succ, List.getElem?_cons_zero]
                    rfl
                  case hQB7 => exact fun _ _ _ h => h
                  case hyB7 =>
                    refine Or.inl ⟨by rfl, ?_⟩
                    intro w hSw
                    go_simp
                  try simp only [Act.put, List.setIfInBounds_toArray, List.set_cons_zero, List.set_cons_succ]
                  refine wpAnyH_take (i := 8) (oi := ?oiB8) (v := (.pointer (some ⟨p, 0, none⟩))) ?hiB8 (by kernel_rfl) (by kernel_rfl) (by kernel_rfl) ?hQB8 ?hyB8 hHeld ?restB8
                  case hiB8 =>
                    simp only [List.getElem?_toArray, List.getElem?_cons_succ, List.getElem?_cons_zero]
                    rfl
                  case hQB8 => exact fun _ _ _ h => h
                  case hyB8 =>
                    refine Or.inl ⟨by rfl, ?_⟩
                    intro w hSw
                    go_simp
                  try simp only [Act.put, List.setIfInBounds_toArray, List.set_cons_zero, List.set_cons_succ]
                  refine wpAnyH_take (i := 9) (oi := ?oiB9) (v := (.string r.m.host)) ?hiB9 (by kernel_rfl) (by kernel_rfl) (by kernel_rfl) ?hQB9 ?hyB9 hHeld ?restB9
                  case hiB9 =>
                    simp only [List.getElem?_toArray, List.getElem?_cons_succ, List.getElem?_cons_zero]
                    rfl
                  case hQB9 => exact fun _ _ _ h => h
                  case hyB9 =>
                    refine Or.inl ⟨by rfl, ?_⟩
                    intro w hSw
                    have hcc := hSw.out.pb.cell 0 _ rfl
                    go_simp
                  try simp only [Act.put, List.setIfInBounds_toArray, List.set_cons_zero, List.set_cons_succ]
                  refine wpAnyH_take (i := 10) (oi := ?oiB10) (v := (.pointer (some ⟨b, 1, none⟩))) ?hiB10 (by kernel_rfl) (by kernel_rfl) (by kernel_rfl) ?hQB10 ?hyB10 hHeld ?restB10
                  case hiB10 =>
                    simp only [List.getElem?_toArray, List.getElem?_cons_succ, List.getElem?_cons_zero]
                    rfl
                  case hQB10 => exact fun _ _ _ h => h
                  case hyB10 =>
                    refine Or.inl ⟨by rfl, ?_⟩
                    intro w hSw
                    go_simp
                  try simp only [Act.put, List.setIfInBounds_toArray, List.set_cons_zero, List.set_cons_succ]
                  refine wpAnyH_take (i := 11) (oi := ?oiB11) (v := (.slice (some ⟨bk, o, none⟩) c.routes.length cap2)) ?hiB11 (by kernel_rfl) (by kernel_rfl) (by kernel_rfl) ?hQB11 ?hyB11 hHeld ?restB11
                  case hiB11 =>
                    simp only [List.getElem?_toArray, List.getElem?_cons_succ, List.getElem?_cons_zero]
                    rfl
                  case hQB11 => exact fun _ _ _ h => h
                  case hyB11 =>
                    refine Or.inl ⟨by rfl, ?_⟩
                    intro w hSw
                    have hcc := hSw.out.cb.cell 1 _ rfl
                    go_simp
                  try simp only [Act.put, List.setIfInBounds_toArray, List.set_cons_zero, List.set_cons_succ]
                  refine wpAnyH_take (i := 12) (oi := ?oiB12) (v := (.int .i64 (M : Int))) ?hiB12 (by kernel_rfl) (by kernel_rfl) (by kernel_rfl) ?hQB12 ?hyB12 hHeld ?restB12
                  case hiB12 =>
                    simp only [List.getElem?_toArray, List.getElem?_cons_succ, List.getElem?_cons_zero]
                    rfl
                  case hQB12 => exact fun _ _ _ h => h
                  case hyB12 =>
                    refine Or.inl ⟨by rfl, ?_⟩
                    intro w hSw
                    go_simp
                  try simp only [Act.put, List.setIfInBounds_toArray, List.set_cons_zero, List.set_cons_succ]
                  refine wpAnyH_take (i := 13) (oi := ?oiB13) (v := (.pointer (some ⟨bk, o + M * 21, none⟩))) ?hiB13 (by kernel_rfl) (by kernel_rfl) (by kernel_rfl) ?hQB13 ?hyB13 hHeld ?restB13
                  case hiB13 =>
                    simp only [List.getElem?_toArray, List.getElem?_cons_succ, List.getElem?_cons_zero]
                    rfl
                  case hQB13 => exact fun _ _ _ h => h
                  case hyB13 =>
                    refine Or.inl ⟨by rfl, ?_⟩
                    intro w hSw
                    go_simp
                  try simp only [Act.put, List.setIfInBounds_toArray, List.set_cons_zero, List.set_cons_succ]
                  refine wpAnyH_take (i := 14) (oi := ?oiB14) (v := (.pointer (some ⟨bk, o + M * 21, none⟩))) ?hiB14 (by kernel_rfl) (by kernel_rfl) (by kernel_rfl) ?hQB14 ?hyB14 hHeld ?restB14
                  case hiB14 =>
                    simp only [List.getElem?_toArray, List.getElem?_cons_succ, List.getElem?_cons_zero]
                    rfl
                  case hQB14 => exact fun _ _ _ h => h
                  case hyB14 =>
                    refine Or.inl ⟨by rfl, ?_⟩
                    intro w hSw
                    go_simp
                  try simp only [Act.put, List.setIfInBounds_toArray, List.set_cons_zero, List.set_cons_succ]
                  refine wpAnyH_take (i := 15) (oi := ?oiB15) (v := (.pointer (some ⟨bk, o + M * 21, none⟩))) ?hiB15 (by kernel_rfl) (by kernel_rfl) (by kernel_rfl) ?hQB15 ?hyB15 hHeld ?restB15
                  case hiB15 =>
                    simp only [List.getElem?_toArray, List.getElem?_cons_succ, List.getElem?_cons_zero]
                    rfl
                  case hQB15 => exact fun _ _ _ h => h
                  case hyB15 =>
                    refine Or.inl ⟨by rfl, ?_⟩
                    intro w hSw
                    go_simp
                  try simp only [Act.put, List.setIfInBounds_toArray, List.set_cons_zero, List.set_cons_succ]
                  refine wpAnyH_take (i := 16) (oi := ?oiB16) (v := (.string ri.m.host)) ?hiB16 (by kernel_rfl) (by kernel_rfl) (by kernel_rfl) ?hQB16 ?hyB16 hHeld ?restB16
                  case hiB16 =>
                    simp only [List.getElem?_toArray, List.getElem?_cons_succ, List.getElem?_cons_zero]
                    rfl
                  case hQB16 => exact fun _ _ _ h => h
                  case hyB16 =>
                    refine Or.inl ⟨by rfl, ?_⟩
                    intro w hSw
                    have hcc := hSw.out.ch.cell f0 (by simp)
                    go_simp
                  try simp only [Act.put, List.setIfInBounds_toArray, List.set_cons_zero, List.set_cons_succ]
                  refine wpAnyH_take (i := 17) (oi := ?oiB17) (v := (.bool false)) ?hiB17 (by kernel_rfl) (by kernel_rfl) (by kernel_rfl) ?hQB17 ?hyB17 hHeld ?restB17
                  case hiB17 =>
                    simp only [List.getElem?_toArray, List.getElem?_cons_succ, List.getElem?_cons_zero]
                    rfl
                  case hQB17 => exact fun _ _ _ h => h
                  case hyB17 =>
                    refine Or.inl ⟨by rfl, ?_⟩
                    intro w hSw
                    go_simp
                  try simp only [Act.put, List.setIfInBounds_toArray, List.set_cons_zero, List.set_cons_succ]
                  refine wpAnyH_take (i := 18) (oi := ?oiB18) (v := (.bool false)) ?hiB18 (by kernel_rfl) (by kernel_rfl) (by kernel_rfl) ?hQB18 ?hyB18 hHeld ?restB18
                  case hiB18 =>
                    simp only [List.getElem?_toArray, List.getElem?_cons_succ, List.getElem?_cons_zero]
                    rfl
                  case hQB18 => exact fun _ _ _ h => h
                  case hyB18 =>
                    refine Or.inl ⟨by rfl, ?_⟩
                    intro w hSw
                    go_simp
                  try simp only [Act.put, List.setIfInBounds_toArray, List.set_cons_zero, List.set_cons_succ]
                  refine wpAnyH_take (i := 19) (oi := ?oiB19) (v := (.bool false)) ?hiB19 (by kernel_rfl) (by kernel_rfl) (by kernel_rfl) ?hQB19 ?hyB19 hHeld ?restB19
                  case hiB19 =>
                    simp only [List.getElem?_toArray, List.getElem?_cons_succ, List.getElem?_cons_zero]
                    rfl
                  case hQB19 => exact fun _ _ _ h => h
                  case hyB19 =>
                    refine Or.inl ⟨by rfl, ?_⟩
                    intro w hSw
                    go_simp
                  try simp only [Act.put, List.setIfInBounds_toArray, List.set_cons_zero, List.set_cons_succ]
                  refine wpAnyH_take (i := 20) (oi := ?oiB20) (v := undef) ?hiB20 (by kernel_rfl) (by kernel_rfl) (by kernel_rfl) ?hQB20 ?hyB20 hHeld ?restB20
                  case hiB20 =>
                    simp only [List.getElem?_toArray, List.getElem?_cons_succ, List.getElem?_cons_zero]
                    rfl
                  case hQB20 => exact fun _ _ _ h => h
                  case hyB20 =>
                    exact Or.inr ⟨by rfl, rfl⟩
                  try simp only [Act.put, List.setIfInBounds_toArray, List.set_cons_zero, List.set_cons_succ]
                  refine wpAnyH_take (i := 21) (oi := ?oiB21) (v := undef) ?hiB21 (by kernel_rfl) (by kernel_rfl) (by kernel_rfl) ?hQB21 ?hyB21 hHeld ?restB21
                  case hiB21 =>
                    simp only [List.getElem?_toArray, List.getElem?_cons_succ, List.getElem?_cons_zero]
                    rfl
                  case hQB21 => exact fun _ _ _ h => h
                  case hyB21 =>
                    exact Or.inr ⟨by rfl, rfl⟩
                  try simp only [Act.put, List.setIfInBounds_toArray, List.set_cons_zero, List.set_cons_succ]
                  refine wpAnyH_take (i := 22) (oi := ?oiB22) (v := undef) ?hiB22 (by kernel_rfl) (by kernel_rfl) (by kernel_rfl) ?hQB22 ?hyB22 hHeld ?restB22
                  case hiB22 =>
                    simp only [List.getElem?_toArray, List.getElem?_cons_succ, List.getElem?_cons_zero]
                    rfl
                  case hQB22 => exact fun _ _ _ h => h
                  case hyB22 =>
                    exact Or.inr ⟨by rfl, rfl⟩
                  try simp only [Act.put, List.setIfInBounds_toArray, List.set_cons_zero, List.set_cons_succ]
                  refine wpAnyH_take (i := 23) (oi := ?oiB23) (v := undef) ?hiB23 (by kernel_rfl) (by kernel_rfl) (by kernel_rfl) ?hQB23 ?hyB23 hHeld ?restB23
                  case hiB23 =>
                    simp only [List.getElem?_toArray, List.getElem?_cons_succ, List.getElem?_cons_zero]
                    rfl
                  case hQB23 => exact fun _ _ _ h => h
                  case hyB23 =>
                    exact Or.inr ⟨by rfl, rfl⟩
                  try simp only [Act.put, List.setIfInBounds_toArray, List.set_cons_zero, List.set_cons_succ]
                  refine wpAnyH_take (i := 24) (oi := ?oiB24) (v := undef) ?hiB24 (by kernel_rfl) (by kernel_rfl) (by kernel_rfl) ?hQB24 ?hyB24 hHeld ?restB24
                  case hiB24 =>
                    simp only [List.getElem?_toArray, List.getElem?_cons_succ, List.getElem?_cons_zero]
                    rfl
                  case hQB24 => exact fun _ _ _ h => h
                  case hyB24 =>
                    exact Or.inr ⟨by rfl, rfl⟩
                  try simp only [Act.put, List.setIfInBounds_toArray, List.set_cons_zero, List.set_cons_succ]
                  refine wpAnyH_take (i := 25) (oi := ?oiB25) (v := undef) ?hiB25 (by kernel_rfl) (by kernel_rfl) (by kernel_rfl) ?hQB25 ?hyB25 hHeld ?restB25
                  case hiB25 =>
                    simp only [List.getElem?_toArray, List.getElem?_cons_succ, List.getElem?_cons_zero]
                    rfl
                  case hQB25 => exact fun _ _ _ h => h
                  case hyB25 =>
                    exact Or.inr ⟨by rfl, rfl⟩
                  try simp only [Act.put, List.setIfInBounds_toArray, List.set_cons_zero, List.set_cons_succ]
                  refine wpAnyH_take (i := 26) (oi := ?oiB26) (v := undef) ?hiB26 (by kernel_rfl) (by kernel_rfl) (by kernel_rfl) ?hQB26 ?hyB26 hHeld ?restB26
                  case hiB26 =>
                    simp only [List.getElem?_toArray, List.getElem?_cons_succ, List.getElem?_cons_zero]
                    rfl
                  case hQB26 => exact fun _ _ _ h => h
                  case hyB26 =>
                    exact Or.inr ⟨by rfl, rfl⟩
                  try simp only [Act.put, List.setIfInBounds_toArray, List.set_cons_zero, List.set_cons_succ]
                  refine wpAnyH_take (i := 27) (oi := ?oiB27) (v := undef) ?hiB27 (by kernel_rfl) (by kernel_rfl) (by kernel_rfl) ?hQB27 ?hyB27 hHeld ?restB27
                  case hiB27 =>
                    simp only [List.getElem?_toArray, List.getElem?_cons_succ, List.getElem?_cons_zero]
                    rfl
                  case hQB27 => exact fun _ _ _ h => h
                  case hyB27 =>
                    exact Or.inr ⟨by rfl, rfl⟩
                  try simp only [Act.put, List.setIfInBounds_toArray, List.set_cons_zero, List.set_cons_succ]
                  refine wpAnyH_take (i := 28) (oi := ?oiB28) (v := undef) ?hiB28 (by kernel_rfl) (by kernel_rfl) (by kernel_rfl) ?hQB28 ?hyB28 hHeld ?restB28
                  case hiB28 =>
                    simp only [List.getElem?_toArray, List.getElem?_cons_succ, List.getElem?_cons_zero]
                    rfl
                  case hQB28 => exact fun _ _ _ h => h
                  case hyB28 =>
                    exact Or.inr ⟨by rfl, rfl⟩
                  try simp only [Act.put, List.setIfInBounds_toArray, List.set_cons_zero, List.set_cons_succ]
                  refine wpAnyH_take (i := 29) (oi := ?oiB29) (v := undef) ?hiB29 (by kernel_rfl) (by kernel_rfl) (by kernel_rfl) ?hQB29 ?hyB29 hHeld ?restB29
                  case hiB29 =>
                    simp only [List.getElem?_toArray, List.getElem?_cons_succ, List.getElem?_cons_zero]
                    rfl
                  case hQB29 => exact fun _ _ _ h => h
                  case hyB29 =>
                    exact Or.inr ⟨by rfl, rfl⟩
                  try simp only [Act.put, List.setIfInBounds_toArray, List.set_cons_zero, List.set_cons_succ]
                  refine wpAnyH_take (i := 30) (oi := ?oiB30) (v := undef) ?hiB30 (by kernel_rfl) (by kernel_rfl) (by kernel_rfl) ?hQB30 ?hyB30 hHeld ?restB30
                  case hiB30 =>
                    simp only [List.getElem?_toArray, List.getElem?_cons_succ, List.getElem?_cons_zero]
                    rfl
                  case hQB30 => exact fun _ _ _ h => h
                  case hyB30 =>
                    exact Or.inr ⟨by rfl, rfl⟩
                  try simp only [Act.put, List.setIfInBounds_toArray, List.set_cons_zero, List.set_cons_succ]
                  refine wpAnyH_take (i := 31) (oi := ?oiB31) (v := undef) ?hiB31 (by kernel_rfl) (by kernel_rfl) (by kernel_rfl) ?hQB31 ?hyB31 hHeld ?restB31
                  case hiB31 =>
                    simp only [List.getElem?_toArray, List.getElem?_cons_succ, List.getElem?_cons_zero]
                    rfl
                  case hQB31 => exact fun _ _ _ h => h
                  case hyB31 =>
                    exact Or.inr ⟨by rfl, rfl⟩
                  try simp only [Act.put, List.setIfInBounds_toArray, List.set_cons_zero, List.set_cons_succ]
                  refine wpAnyH_take (i := 32) (oi := ?oiB32) (v := undef) ?hiB32 (by kernel_rfl) (by kernel_rfl) (by kernel_rfl) ?hQB32 ?hyB32 hHeld ?restB32
                  case hiB32 =>
                    simp only [List.getElem?_toArray, List.getElem?_cons_succ, List.getElem?_cons_zero]
                    rfl
                  case hQB32 => exact fun _ _ _ h => h
                  case hyB32 =>
                    exact Or.inr ⟨by rfl, rfl⟩
                  try simp only [Act.put, List.setIfInBounds_toArray, List.set_cons_zero, List.set_cons_succ]
                  refine wpAnyH_take (i := 33) (oi := ?oiB33) (v := undef) ?hiB33 (by kernel_rfl) (by kernel_rfl) (by kernel_rfl) ?hQB33 ?hyB33 hHeld ?restB33
                  case hiB33 =>
                    simp only [List.getElem?_toArray, List.getElem?_cons_succ, List.getElem?_cons_zero]
                    rfl
                  case hQB33 => exact fun _ _ _ h => h
                  case hyB33 =>
                    exact Or.inr ⟨by rfl, rfl⟩
                  try simp only [Act.put, List.setIfInBounds_toArray, List.set_cons_zero, List.set_cons_succ]
                  refine wpAnyH_take (i := 34) (oi := ?oiB34) (v := undef) ?hiB34 (by kernel_rfl) (by kernel_rfl) (by kernel_rfl) ?hQB34 ?hyB34 hHeld ?restB34
                  case hiB34 =>
                    simp only [List.getElem?_toArray, List.getElem?_cons_succ, List.getElem?_cons_zero]
                    rfl
                  case hQB34 => exact fun _ _ _ h => h
                  case hyB34 =>
                    exact Or.inr ⟨by rfl, rfl⟩
                  try simp only [Act.put, List.setIfInBounds_toArray, List.set_cons_zero, List.set_cons_succ]
                  refine wpAnyH_take (i := 35) (oi := ?oiB35) (v := undef) ?hiB35 (by kernel_rfl) (by kernel_rfl) (by kernel_rfl) ?hQB35 ?hyB35 hHeld ?restB35
                  case hiB35 =>
                    simp only [List.getElem?_toArray, List.getElem?_cons_succ, List.getElem?_cons_zero]
                    rfl
                  case hQB35 => exact fun _ _ _ h => h
                  case hyB35 =>
                    exact Or.inr ⟨by rfl, rfl⟩
                  try simp only [Act.put, List.setIfInBounds_toArray, List.set_cons_zero, List.set_cons_succ]
                  refine wpAnyH_take (i := 36) (oi := ?oiB36) (v := undef) ?hiB36 (by kernel_rfl) (by kernel_rfl) (by kernel_rfl) ?hQB36 ?hyB36 hHeld ?restB36
                  case hiB36 =>
                    simp only [List.getElem?_toArray, List.getElem?_cons_succ, List.getElem?_cons_zero]
                    rfl
                  case hQB36 => exact fun _ _ _ h => h
                  case hyB36 =>
                    exact Or.inr ⟨by rfl, rfl⟩
                  try simp only [Act.put, List.setIfInBounds_toArray, List.set_cons_zero, List.set_cons_succ]
                  refine wpAnyH_take (i := 37) (oi := ?oiB37) (v := undef) ?hiB37 (by kernel_rfl) (by kernel_rfl) (by kernel_rfl) ?hQB37 ?hyB37 hHeld ?restB37
                  case hiB37 =>
                    simp only [List.getElem?_toArray, List.getElem?_cons_succ, List.getElem?_cons_zero]
                    rfl
                  case hQB37 => exact fun _ _ _ h => h
                  case hyB37 =>
                    exact Or.inr ⟨by rfl, rfl⟩
                  try simp only [Act.put, List.setIfInBounds_toArray, List.set_cons_zero, List.set_cons_succ]
                  refine wpAnyH_take (i := 38) (oi := ?oiB38) (v := undef) ?hiB38 (by kernel_rfl) (by kernel_rfl) (by kernel_rfl) ?hQB38 ?hyB38 hHeld ?restB38
                  case hiB38 =>
                    simp only [List.getElem?_toArray, List.getElem?_cons_succ, List.getElem?_cons_zero]
                    rfl
                  case hQB38 => exact fun _ _ _ h => h
                  case hyB38 =>
                    exact Or.inr ⟨by rfl, rfl⟩
                  try simp only [Act.put, List.setIfInBounds_toArray, List.set_cons_zero, List.set_cons_succ]
                  refine wpAnyH_take (i := 39) (oi := ?oiB39) (v := undef) ?hiB39 (by kernel_rfl) (by kernel_rfl) (by kernel_rfl) ?hQB39 ?hyB39 hHeld ?restB39
                  case hiB39 =>
                    simp only [List.getElem?_toArray, List.getElem?_cons_succ, List.getElem?_cons_zero]
                    rfl
                  case hQB39 => exact fun _ _ _ h => h
                  case hyB39 =>
                    exact Or.inr ⟨by rfl, rfl⟩
                  try simp only [Act.put, List.setIfInBounds_toArray, List.set_cons_zero, List.set_cons_succ]
                  refine wpAnyH_take (i := 40) (oi := ?oiB40) (v := undef) ?hiB40 (by kernel_rfl) (by kernel_rfl) (by kernel_rfl) ?hQB40 ?hyB40 hHeld ?restB40
                  case hiB40 =>
                    simp only [List.getElem?_toArray, List.getElem?_cons_succ, List.getElem?_cons_zero]
                    rfl
                  case hQB40 => exact fun _ _ _ h => h
                  case hyB40 =>
                    exact Or.inr ⟨by rfl, rfl⟩
                  try simp only [Act.put, List.setIfInBounds_toArray, List.set_cons_zero, List.set_cons_succ]
                  refine wpAnyH_take (i := 41) (oi := ?oiB41) (v := undef) ?hiB41 (by kernel_rfl) (by kernel_rfl) (by kernel_rfl) ?hQB41 ?hyB41 hHeld ?restB41
                  case hiB41 =>
                    simp only [List.getElem?_toArray, List.getElem?_cons_succ, List.getElem?_cons_zero]
                    rfl
                  case hQB41 => exact fun _ _ _ h => h
                  case hyB41 =>
                    exact Or.inr ⟨by rfl, rfl⟩
                  try simp only [Act.put, List.setIfInBounds_toArray, List.set_cons_zero, List.set_cons_succ]
                  refine wpAnyH_take (i := 42) (oi := ?oiB42) (v := undef) ?hiB42 (by kernel_rfl) (by kernel_rfl) (by kernel_rfl) ?hQB42 ?hyB42 hHeld ?restB42
                  case hiB42 =>
                    simp only [List.getElem?_toArray, List.getElem?_cons_succ, List.getElem?_cons_zero]
                    rfl
                  case hQB42 => exact fun _ _ _ h => h
                  case hyB42 =>
                    exact Or.inr ⟨by rfl, rfl⟩
                  try simp only [Act.put, List.setIfInBounds_toArray, List.set_cons_zero, List.set_cons_succ]
                  refine wpAnyH_take (i := 43) (oi := ?oiB43) (v := undef) ?hiB43 (by kernel_rfl) (by kernel_rfl) (by kernel_rfl) ?hQB43 ?hyB43 hHeld ?restB43
                  case hiB43 =>
                    simp only [List.getElem?_toArray, List.getElem?_cons_succ, List.getElem?_cons_zero]
                    rfl
                  case hQB43 => exact fun _ _ _ h => h
                  case hyB43 =>
                    exact Or.inr ⟨by rfl, rfl⟩
                  try simp only [Act.put, List.setIfInBounds_toArray, List.set_cons_zero, List.set_cons_succ]
                  refine wpAnyH_take (i := 44) (oi := ?oiB44) (v := undef) ?hiB44 (by kernel_rfl) (by kernel_rfl) (by kernel_rfl) ?hQB44 ?hyB44 hHeld ?restB44
                  case hiB44 =>
                    simp only [List.getElem?_toArray, List.getElem?_cons_succ, List.getElem?_cons_zero]
                    rfl
                  case hQB44 => exact fun _ _ _ h => h
                  case hyB44 =>
                    exact Or.inr ⟨by rfl, rfl⟩
                  try simp only [Act.put, List.setIfInBounds_toArray, List.set_cons_zero, List.set_cons_succ]
                  refine wpAnyH_take (i := 45) (oi := ?oiB45) (v := undef) ?hiB45 (by kernel_rfl) (by kernel_rfl) (by kernel_rfl) ?hQB45 ?hyB45 hHeld ?restB45
                  case hiB45 =>
                    simp only [List.getElem?_toArray, List.getElem?_cons_succ, List.getElem?_cons_zero]
                    rfl
                  case hQB45 => exact fun _ _ _ h => h
                  case hyB45 =>
                    exact Or.inr ⟨by rfl, rfl⟩
                  try simp only [Act.put, List.setIfInBounds_toArray, List.set_cons_zero, List.set_cons_succ]
                  refine wpAnyH_take (i := 46) (oi := ?oiB46) (v := undef) ?hiB46 (by kernel_rfl) (by kernel_rfl) (by kernel_rfl) ?hQB46 ?hyB46 hHeld ?restB46
                  case hiB46 =>
                    simp only [List.getElem?_toArray, List.getElem?_cons_succ, List.getElem?_cons_zero]
                    rfl
                  case hQB46 => exact fun _ _ _ h => h
                  case hyB46 =>
                    exact Or.inr ⟨by rfl, rfl⟩
                  try simp only [Act.put, List.setIfInBounds_toArray, List.set_cons_zero, List.set_cons_succ]
                  refine wpAnyH_take (i := 47) (oi := ?oiB47) (v := undef) ?hiB47 (by kernel_rfl) (by kernel_rfl) (by kernel_rfl) ?hQB47 ?hyB47 hHeld ?restB47
                  case hiB47 =>
                    simp only [List.getElem?_toArray, List.getElem?_cons_succ, List.getElem?_cons_zero]
                    rfl
                  case hQB47 => exact fun _ _ _ h => h
                  case hyB47 =>
                    exact Or.inr ⟨by rfl, rfl⟩
                  try simp only [Act.put, List.setIfInBounds_toArray, List.set_cons_zero, List.set_cons_succ]
                  refine wpAnyH_take (i := 48) (oi := ?oiB48) (v := undef) ?hiB48 (by kernel_rfl) (by kernel_rfl) (by kernel_rfl) ?hQB48 ?hyB48 hHeld ?restB48
                  case hiB48 =>
                    simp only [List.getElem?_toArray, List.getElem?_cons_succ, List.getElem?_cons_zero]
                    rfl
                  case hQB48 => exact fun _ _ _ h => h
                  case hyB48 =>
                    exact Or.inr ⟨by rfl, rfl⟩
                  try simp only [Act.put, List.setIfInBounds_toArray, List.set_cons_zero, List.set_cons_succ]
                  refine wpAnyH_take (i := 49) (oi := ?oiB49) (v := undef) ?hiB49 (by kernel_rfl) (by kernel_rfl) (by kernel_rfl) ?hQB49 ?hyB49 hHeld ?restB49
                  case hiB49 =>
                    simp only [List.getElem?_toArray, List.getElem?_cons_succ, List.getElem?_cons_zero]
                    rfl
                  case hQB49 => exact fun _ _ _ h => h
                  case hyB49 =>
                    exact Or.inr ⟨by rfl, rfl⟩
                  try simp only [Act.put, List.setIfInBounds_toArray, List.set_cons_zero, List.set_cons_succ]
                  refine wpAnyH_take (i := 50) (oi := ?oiB50) (v := undef) ?hiB50 (by kernel_rfl) (by kernel_rfl) (by kernel_rfl) ?hQB50 ?hyB50 hHeld ?restB50
                  case hiB50 =>
                    simp only [List.getElem?_toArray, List.getElem?_cons_succ, List.getElem?_cons_zero]
                    rfl
                  case hQB50 => exact fun _ _ _ h => h
                  case hyB50 =>
                    exact Or.inr ⟨by rfl, rfl⟩
                  try simp only [Act.put, List.setIfInBounds_toArray, List.set_cons_zero, List.set_cons_succ]
                  refine wpAnyH_take (i := 51) (oi := ?oiB51) (v := undef) ?hiB51 (by kernel_rfl) (by kernel_rfl) (by kernel_rfl) ?hQB51 ?hyB51 hHeld ?restB51
                  case hiB51 =>
                    simp only [List.getElem?_toArray, List.getElem?_cons_succ, List.getElem?_cons_zero]
                    rfl
                  case hQB51 => exact fun _ _ _ h => h
                  case hyB51 =>
                    exact Or.inr ⟨by rfl, rfl⟩
                  try simp only [Act.put, List.setIfInBounds_toArray, List.set_cons_zero, List.set_cons_succ]
                  refine wpAnyH_take (i := 52) (oi := ?oiB52) (v := undef) ?hiB52 (by kernel_rfl) (by kernel_rfl) (by kernel_rfl) ?hQB52 ?hyB52 hHeld ?restB52
                  case hiB52 =>
                    simp only [List.getElem?_toArray, List.getElem?_cons_succ, List.getElem?_cons_zero]
                    rfl
                  case hQB52 => exact fun _ _ _ h => h
                  case hyB52 =>
                    exact Or.inr ⟨by rfl, rfl⟩
                  try simp only [Act.put, List.setIfInBounds_toArray, List.set_cons_zero, List.set_cons_succ]
                  refine wpAnyH_take (i := 53) (oi := ?oiB53) (v := (.bool false)) ?hiB53 (by kernel_rfl) (by kernel_rfl) (by kernel_rfl) ?hQB53 ?hyB53 hHeld ?restB53
                  case hiB53 =>
                    simp only [List.getElem?_toArray, List.getElem?_cons_succ, List.getElem?_cons_zero]
                    rfl
                  case hQB53 => exact fun _ _ _ h => h
                  case hyB53 =>
                    refine Or.inl ⟨by rfl, ?_⟩
                    intro w hSw
                    go_simp
                  try simp only [Act.put, List.setIfInBounds_toArray, List.set_cons_zero, List.set_cons_succ]
                  refine wpAnyH_done (by kernel_rfl) ?_ _
                  go_wp2_with fail
                  go_roundw
                  case rel => exact ⟨k + 1, by go_num, by omega, Lib.hid ⟨HS.out.cb, HS.out.hb, HS.out.ch⟩⟩
                  case measure => simp [intOf]; omega
            · have HC := Lib.hid HSB.out.ch
              obtain rfl : k = c.routes.length := by omega
              go_wp2_with fail
              refine (ospeaks_any _ (Lib.hid (hE.out.chg HC.out))).mono ?_
              rintro e W8 ⟨rfl, H8⟩
              go_wp2_with fail
              go_ret
              exact ⟨rfl, HC.out.trans H8.out (by simp)⟩
  · have HD : Hid (i = 0 ∧ er ≠ 0) := Lib.hid (by
      rcases HF.out with ⟨hz, -⟩ | ⟨-, r1, hp1, hq⟩
      · rw [HZ.out] at hz
        cases hz
      · rcases place_same hp1 HP2.out with rfl | ⟨n1, -⟩
        · rcases hq with ⟨n1, q1, q2⟩ | ⟨n0, -⟩
          · exact ⟨q1, by rw [q2]; exact n1⟩
          · exact absurd n0 k1
        · rcases hq with ⟨-, q1, q2⟩ | ⟨n0, -⟩
          · exact ⟨q1, by rw [q2]; exact n1⟩
          · exact absurd n0 n1)
    obtain ⟨rfl, k2⟩ := HD.out
    have k1b : (f2 == 0) = false := beq_eq_false_iff_ne.2 k1
    have k2b : (er == 0) = false := beq_eq_false_iff_ne.2 k2
    have K2C := Lib.hid (show (er != 0) = true from by rw [bne, k2b]; rfl)
    clear HF
    go_wp2_with fail
    refine (ospeaks_any _ (Lib.hid (hE.out.chg HC.out))).mono ?_
    rintro e W8 ⟨rfl, H8⟩
    go_wp2_with fail
    go_ret
    exact ⟨by first | rfl | exact congrArg (fun b => Ending.returned (Value.bool b)) K2C.out, HC.out.trans H8.out (by simp)⟩
end Go.Proofs.YtjndgkbikhndoaaGreatDoor
