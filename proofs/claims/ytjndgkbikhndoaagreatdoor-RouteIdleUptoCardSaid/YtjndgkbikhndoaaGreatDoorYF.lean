/- Layer 14 (route), the program: Find. -/
import Derived.Test.YtjndgkbikhndoaaGreatDoorYD
import Derived.Test.YtjndgkbikhndoaaGreatDoorYE
namespace Go.Proofs.YtjndgkbikhndoaaGreatDoor
open Go.RowKit Go.ChangeShapes Go.WideShapes
set_option linter.unusedVariables false
set_option linter.unusedSimpArgs false

/-- The numbers of the first k routes that take a request. -/
def takK (rs : List Rt) (h : Hd) (ho pa : ByteArray) (k : Nat) : List Nat := (List.range k).filter (fun i => takesB (rs.getD i zRt).m h ho pa)
theorem takK_succ (rs : List Rt) (h : Hd) (ho pa : ByteArray) {k : Nat} {r : Rt} (hr : rs[k]? = some r) : takK rs h ho pa (k + 1) = takK rs h ho pa k ++ (if takesB r.m h ho pa = true then [k] else []) := by
  unfold takK
  rw [List.range_succ, List.filter_append, List.filter_cons, List.filter_nil, getD_of hr]
theorem takK_lt {rs : List Rt} {h : Hd} {ho pa : ByteArray} {k x : Nat} (hx : x ∈ takK rs h ho pa k) : x < k := List.mem_range.1 (List.mem_filter.1 hx).1
theorem takK_len (rs : List Rt) (h : Hd) (ho pa : ByteArray) (k : Nat) : (takK rs h ho pa k).length ≤ k := by
  unfold takK
  have := List.length_filter_le (fun i => takesB (rs.getD i zRt).m h ho pa) (List.range k)
  rw [List.length_range] at this
  exact this
/-- What Find says. -/
def FindIs (c : Cf) (h : Hd) (i er : Int) : Prop :=
  (rightB c = false ∧ i = 0 ∧ er = 3) ∨ (rightB c = true ∧ ∃ r, PlaceIs h r ∧ ((r.2.2 ≠ 0 ∧ i = 0 ∧ er = r.2.2) ∨ (r.2.2 = 0 ∧ ((takK c.routes h r.1 r.2.1 c.routes.length = [] ∧ i = 0 ∧ er = 6) ∨ (∃ x l, takK c.routes h r.1 r.2.1 c.routes.length = x :: l ∧ i = (minF c.routes x l : Nat) ∧ er = 0)))))
theorem info3 : (Tryz.prog.info? 3).map (fun i => (i.zero, i.size, i.bytes)) = some (some (.int .i64 0), 1, 8) := by kernel_rfl
theorem int_rows_len (zs : List Int) : ∀ r, r ∈ intRows zs → r.length = 1 := by
  intro r hr
  obtain ⟨u, -, rfl⟩ := List.mem_map.1 hr
  rfl
theorem hd_load {w : World} {g : Nat} {h : Hd} {fv : Value} (hg : Blk w g (hdRow h fv) 27) : (loadVar 27 ⟨g, 0, none⟩).run Tryz.prog w = .ok (.agg (hdRow h fv).toArray) w :=
  load_row 27 _ (hdRow h fv) Tryz.underlying27 rfl (by kernel_rfl) (fun j x hj => by rw [Nat.zero_add]; exact hg.cell j x hj)
set_option maxHeartbeats 16000000 in
set_option maxRecDepth 100000 in
theorem find_any (c : Cf) (hv rv : Value) (ps : List (Value × Value)) (h : Hd) (fv : Value) (w : World) (hE : Hid (Env w)) (hC : Hid (CfAt w c hv rv ps)) (hS : Hid (CfSz c)) (hfs : Hid (Flds w fv h.fields)) (hhz : Hid (HdSz h)) :
    Calls Tryz.prog 23 #[.agg (cfRow c hv rv).toArray, .agg (hdRow h fv).toArray] w fun e w' => (∃ i er : Int, FindIs c h i er ∧ e = .returned (.tuple #[.int .i64 i, .int .i64 er])) ∧ Hid (Chg [] w w') := by
  have hl1 : (c.hosts.map htRow).length = c.hosts.length := List.length_map _
  obtain ⟨A, cap, rfl⟩ := hC.out.hs.form
  rw [hl1] at hC ⊢
  have hl2 : ((c.routes.zip ps).map (fun x => rtRow x.1 x.2.1 x.2.2)).length = c.routes.length := by
    have := hC.out.rs.len
    rw [List.length_map, List.length_zip]
    omega
  obtain ⟨A2, cap2, rfl⟩ := hC.out.rs.tb.form
  rw [hl2] at hC ⊢
  have HL2 := Lib.hid hl2
  have hcap2 := hC.out.rs.tb.cap
  have hrn := hS.out.rn
  clear hl1 hl2
  have HB0 := Lib.hid ((Blk.new w (cfRow c (.slice A c.hosts.length cap) (.slice A2 c.routes.length cap2)) 36).alloc (.cells (hdRow h fv).toArray 27))
  have HG0 := Lib.hid (Blk.new (w.alloc (.cells (cfRow c (.slice A c.hosts.length cap) (.slice A2 c.routes.length cap2)).toArray 36)) (hdRow h fv) 27)
  rw [show (w.alloc (.cells (cfRow c (.slice A c.hosts.length cap) (.slice A2 c.routes.length cap2)).toArray 36)).heap.size = w.heap.size + 1 by simp] at HG0
  have HC0 := Lib.hid (((Chg.refl [] w).alloc (.cells (cfRow c (.slice A c.hosts.length cap) (.slice A2 c.routes.length cap2)).toArray 36)).alloc (.cells (hdRow h fv).toArray 27))
  obtain ⟨z, hz⟩ : ∃ z, rightB c = z := ⟨_, rfl⟩
  have HZ := Lib.hid hz
  clear hz
  change Calls Tryz.prog 23 #[.agg #[.slice A c.hosts.length cap, .slice A2 c.routes.length cap2, .int .i64 c.every, .int .i64 c.timeout, .int .i64 c.up, .int .i64 c.down, .string c.path, .int .i64 c.fails, .int .i64 c.base, .int .i64 c.longest, .int .i64 c.share, .int .i64 c.maxHead, .int .i64 c.maxBody, .int .i64 c.maxOut, .int .i64 c.headTime, .int .i64 c.idle, .int .i64 c.life, .int .i64 c.clients], .agg #[.bool h.request, .string h.method, .string h.target, .int .i64 h.minor, .int .i64 h.status, .string h.reason, fv]] w _
  go_enter Tryz.func23, Tryz.ntmps23
  go_upto_region 1 with fail
  change Hid (Blk ((w.alloc (.cells #[.slice A c.hosts.length cap, .slice A2 c.routes.length cap2, .int .i64 c.every, .int .i64 c.timeout, .int .i64 c.up, .int .i64 c.down, .string c.path, .int .i64 c.fails, .int .i64 c.base, .int .i64 c.longest, .int .i64 c.share, .int .i64 c.maxHead, .int .i64 c.maxBody, .int .i64 c.maxOut, .int .i64 c.headTime, .int .i64 c.idle, .int .i64 c.life, .int .i64 c.clients] 36)).alloc (.cells #[.bool h.request, .string h.method, .string h.target, .int .i64 h.minor, .int .i64 h.status, .string h.reason, fv] 27)) _ _ _) at HB0
  change Hid (Blk ((w.alloc (.cells #[.slice A c.hosts.length cap, .slice A2 c.routes.length cap2, .int .i64 c.every, .int .i64 c.timeout, .int .i64 c.up, .int .i64 c.down, .string c.path, .int .i64 c.fails, .int .i64 c.base, .int .i64 c.longest, .int .i64 c.share, .int .i64 c.maxHead, .int .i64 c.maxBody, .int .i64 c.maxOut, .int .i64 c.headTime, .int .i64 c.idle, .int .i64 c.life, .int .i64 c.clients] 36)).alloc (.cells #[.bool h.request, .string h.method, .string h.target, .int .i64 h.minor, .int .i64 h.status, .string h.reason, fv] 27)) _ _ _) at HG0
  change Hid (Chg [] w ((w.alloc (.cells #[.slice A c.hosts.length cap, .slice A2 c.routes.length cap2, .int .i64 c.every, .int .i64 c.timeout, .int .i64 c.up, .int .i64 c.down, .string c.path, .int .i64 c.fails, .int .i64 c.base, .int .i64 c.longest, .int .i64 c.share, .int .i64 c.maxHead, .int .i64 c.maxBody, .int .i64 c.maxOut, .int .i64 c.headTime, .int .i64 c.idle, .int .i64 c.life, .int .i64 c.clients] 36)).alloc (.cells #[.bool h.request, .string h.method, .string h.target, .int .i64 h.minor, .int .i64 h.status, .string h.reason, fv] 27))) at HC0
  generalize (w.alloc (.cells #[.slice A c.hosts.length cap, .slice A2 c.routes.length cap2, .int .i64 c.every, .int .i64 c.timeout, .int .i64 c.up, .int .i64 c.down, .string c.path, .int .i64 c.fails, .int .i64 c.base, .int .i64 c.longest, .int .i64 c.share, .int .i64 c.maxHead, .int .i64 c.maxBody, .int .i64 c.maxOut, .int .i64 c.headTime, .int .i64 c.idle, .int .i64 c.life, .int .i64 c.clients] 36)).alloc (.cells #[.bool h.request, .string h.method, .string h.target, .int .i64 h.minor, .int .i64 h.status, .string h.reason, fv] 27) = W1 at HB0 HG0 HC0 ⊢
  generalize w.heap.size + 1 = g at HG0 ⊢
  generalize w.heap.size = b at HB0 ⊢
  have HB := HB0
  have HG := HG0
  have HC := HC0
  clear HB0 HG0 HC0
  have HL0 := Lib.hid (cf_load HB.out)
  go_wp2_with (refine wpList_load_row rfl 36 _ rfl ⟨b, 0, none⟩ _ rfl HL0.out ?_)
  refine (check_any c _ _ ps _ (Lib.hid (hE.out.chg HC.out)) (Lib.hid (hC.out.chg HC.out)) hS z HZ.out).mono ?_
  rintro e W3 ⟨rfl, H3⟩
  have HB3 := Lib.hid (HB.out.chg H3.out (by simp))
  have HG3 := Lib.hid (HG.out.chg H3.out (by simp))
  have HC3 := Lib.hid (HC.out.trans H3.out (by simp))
  clear HL0 HB HC HG
  cases z
  · rw [show ok3 false = 3 from rfl]
    go_wp2_with fail
    go_ret2
    exact ⟨⟨0, 3, .inl ⟨HZ.out, rfl, rfl⟩, rfl⟩, HC3.out⟩
  rw [show ok3 true = 0 from rfl]
  have HLG := Lib.hid (hd_load HG3.out)
  go_wp2_with (refine wpList_load_row rfl 27 _ rfl ⟨g, 0, none⟩ _ rfl HLG.out ?_)
  refine (place_any h fv _ (Lib.hid (hE.out.chg HC3.out)) (Lib.hid (hfs.out.chg HC3.out)) hhz).mono ?_
  rintro e Wm ⟨⟨r, hr, rfl⟩, H4⟩
  obtain ⟨ho, pa, er⟩ := r
  have HPL := Lib.hid hr
  have hsz := place_sz hr hhz.out
  obtain ⟨hos, pas⟩ := hsz
  dsimp only at hos pas ⊢
  have HB := Lib.hid (HB3.out.chg H4.out (by simp))
  have HG := Lib.hid (HG3.out.chg H4.out (by simp))
  have HC := Lib.hid (HC3.out.trans H4.out (by simp))
  clear HLG HB3 HC3 HG3 hr
  by_cases k1 : er = 0
  · subst k1
    have c1 := HB.out.cell 1 _ rfl
    go_wp2_with fail
    clear c1
    go_loopw [10, 31] (fun v i wr => ∃ k : Nat, i = .int .i64 k ∧ k ≤ c.routes.length ∧ Hid (OwnT Wm.heap.size 3 1 wr v (intRows ((takK c.routes h ho pa k).map Int.ofNat))) ∧ Hid (Chg [] Wm wr)) (fun _ i _ => c.routes.length - (intOf i).toNat)
    case atStart => exact ⟨0, rfl, by omega, Lib.hid (OwnT.nil _ _ _ _), Lib.hid (Chg.refl _ _)⟩
    case round =>
      obtain ⟨k, rfl, hk, HO, HCk⟩ := hrel
      have HCr := Lib.hid (HC.out.trans HCk.out (by simp))
      by_cases hlt : k < c.routes.length
      · obtain ⟨r, hr⟩ : ∃ r, c.routes[k]? = some r := ⟨_, List.getElem?_eq_getElem hlt⟩
        obtain ⟨p, hp⟩ : ∃ p, ps[k]? = some p := ⟨_, List.getElem?_eq_getElem (by rw [hC.out.rs.len]; exact hlt)⟩
        have hrow : ((c.routes.zip ps).map (fun x => rtRow x.1 x.2.1 x.2.2))[k]? = some (rtRow r p.1 p.2) := by
          rw [List.getElem?_map, (List.getElem?_zip_eq_some (z := (r, p))).2 ⟨hr, hp⟩]
          rfl
        have HRA := Lib.hid (hC.out.rs.each k r p hr hp)
        have HTK := Lib.hid (takK_succ c.routes h ho pa hr)
        have HRS := Lib.hid (hS.out.rs r (List.mem_of_getElem? hr)).m
        obtain ⟨p1, p2⟩ := p
        dsimp only at HRA hrow
        obtain ⟨Am, cm, rfl⟩ := HRA.out.ms.form
        obtain ⟨Ah, ch, rfl⟩ := HRA.out.hs.form
        generalize hlm : (strRows r.m.methods).length = lm at *
        generalize hlh : (intRows r.hosts).length = lh at *
        clear hlm hlh
        obtain ⟨A3, cap3, e3, -, h3⟩ := hC.out.rs.tb
        injection e3 with e31 e32 e33
        subst e31
        obtain ⟨br, or, rfl, hbr, hx⟩ := h3 (by rw [HL2.out]; omega)
        have HLDr := Lib.hid (load_row 42 _ (rtRow r (.slice Am lm cm) (.slice Ah lh ch)) Tryz.underlying42 rfl (by kernel_rfl) (fun j x hj => HCr.out.cell (hx k _ hrow j x hj) (by simp)))
        have HST := Lib.hid (run_storeVar_new (P := Tryz.prog) wr 42 zeroRt (rtRow r (.slice Am lm cm) (.slice Ah lh ch)).toArray (by kernel_rfl) rfl (by simp [Value.oneCell', rtRow]))
        have hlk := takK_len c.routes h ho pa k
        clear hx hrow hr hp h3 e32 e33 hbr
        go_upto_region 11 with (first | refine wpList_load_row rfl 42 _ rfl ⟨br, or + k * 21, none⟩ _ rfl HLDr.out ?_ | refine wpList_store_row rfl 42 _ _ rfl ⟨wr.heap.size, 0, none⟩ _ _ rfl rfl HST.out ?_)
        have HBL := Lib.hid (Blk.new wr (rtRow r (.slice Am lm cm) (.slice Ah lh ch)) 42)
        have HCz := Lib.hid (HCk.out.alloc (.cells (rtRow r (.slice Am lm cm) (.slice Ah lh ch)).toArray 42))
        have HOz := Lib.hid (HO.out.chg ((Chg.refl [] wr).alloc (.cells (rtRow r (.slice Am lm cm) (.slice Ah lh ch)).toArray 42)))
        generalize wr.alloc (.cells (rtRow r (.slice Am lm cm) (.slice Ah lh ch)).toArray 42) = Wz at HBL HCz HOz ⊢
        generalize wr.heap.size = p at HBL ⊢
        have q0 := HBL.out.cell 0 _ rfl
        have q1 := HBL.out.cell 1 _ rfl
        have q2 := HBL.out.cell 2 _ rfl
        have q3 := HBL.out.cell 3 _ rfl
        have q4 := HBL.out.cell 4 _ rfl
        have HCw := Lib.hid (HC.out.trans HCz.out (by simp))
        have HLG := Lib.hid (hd_load (HG.out.chg HCz.out (by simp)))
        have HMS := Lib.hid (HRA.out.chg HCw.out).ms
        clear HLDr HST HBL HO HCk HCr HRA
        go_wp2_with (refine wpList_load_row rfl 27 _ rfl ⟨g, 0, none⟩ _ rfl HLG.out ?_)
        clear q0 q1 q2 q3 q4 HLG
        obtain ⟨t, ht⟩ : ∃ t, takesB r.m h ho pa = t := ⟨_, rfl⟩
        rw [ht] at HTK
        refine (takesM_any r.m h (.slice Am lm cm) fv ho pa _ HMS (Lib.hid (hfs.out.chg HCw.out)) HRS hhz hos pas t ht).mono ?_
        rintro e W8 ⟨rfl, H8⟩
        have HC8 := Lib.hid (HCz.out.trans H8.out (by simp))
        have HO8 := Lib.hid (HOz.out.chg H8.out)
        clear HCz HOz ht
        cases t
        · have HTK2 := Lib.hid (show takK c.routes h ho pa (k + 1) = takK c.routes h ho pa k from by rw [HTK.out]; simp)
          go_wp2_with fail
          go_roundw
          case rel => exact ⟨k + 1, by go_num, by omega, by rw [HTK2.out]; exact HO8, HC8⟩
          case measure => simp [intOf]; omega
        · have HTK2 := Lib.hid (show intRows ((takK c.routes h ho pa (k + 1)).map Int.ofNat) = intRows ((takK c.routes h ho pa k).map Int.ofNat) ++ [[.int .i64 (k : Int)]] from by rw [HTK.out, if_pos rfl, List.map_append]; unfold intRows; rw [List.map_append]; rfl)
          have htl : (intRows ((takK c.routes h ho pa k).map Int.ofNat)).length ≤ 1048576 := by unfold intRows; rw [List.length_map, List.length_map]; omega
          generalize intRows ((takK c.routes h ho pa k).map Int.ofNat) = tk at *
          obtain ⟨Av, cv, rfl⟩ := HO8.out.form
          obtain ⟨v5, w5, hr5, ho5, hg5⟩ := run_pushT 40 3 1 8 _ 40 Wm.heap.size (W8.alloc (.cells #[.int .i64 (k : Int)] 3)) (.slice Av tk.length cv) tk [.int .i64 (k : Int)] W8.heap.size Tryz.underlying40 info3 rfl (by decide) (HO8.out.chg ((Chg.refl [] W8).alloc _)) (Blk.new _ _ _) rfl (by simp [Value.oneCell']) (by omega) (by omega) (by have := HC8.out.size; simp; omega)
          have HO5 := Lib.hid ho5
          have HC5 := Lib.hid (Chg.grownOwn (HC8.out.alloc (.cells #[.int .i64 (k : Int)] 3)) (HO8.out.chg ((Chg.refl [] W8).alloc (.cells #[.int .i64 (k : Int)] 3))) (Nat.le_refl _) hg5)
          clear ho5 hg5
          go_wp2_with (at_builtin; refine wpList_appT rfl 40 _ _ rfl _ _ rfl rfl v5 w5 hr5 ?_)
          go_roundw
          case rel => exact ⟨k + 1, by go_num, by omega, by rw [HTK2.out]; exact HO5, HC5⟩
          case measure => simp [intOf]; omega
      · obtain rfl : k = c.routes.length := by omega
        have HT := Lib.hid (HO.out.tbl (int_rows_len _))
        have HBk := Lib.hid (HB.out.chg HCk.out (by simp))
        have hlk := takK_len c.routes h ho pa c.routes.length
        have HLT := Lib.hid (fun x (hx : x ∈ takK c.routes h ho pa c.routes.length) => takK_lt hx)
        obtain ⟨l, hl⟩ : ∃ l, takK c.routes h ho pa c.routes.length = l := ⟨_, rfl⟩
        have HLL := Lib.hid hl
        rw [hl] at HT HO hlk HLT
        clear hl
        cases l with
        | nil =>
          obtain ⟨Av, cv, rfl⟩ := HO.out.form
          go_wp2_with fail
          go_ret2
          exact ⟨⟨0, 6, .inr ⟨HZ.out, _, HPL.out, .inr ⟨rfl, .inl ⟨HLL.out, rfl, rfl⟩⟩⟩, rfl⟩, HCr.out⟩
        | cons x l =>
          obtain ⟨Av, cv, rfl⟩ := HO.out.form
          have hln : (intRows ((x :: l).map Int.ofNat)).length = l.length + 1 := by unfold intRows; rw [List.length_map, List.length_map, List.length_cons]
          rw [hln] at HT ⊢
          have hl0 : (((l.length + 1 : Nat) : Int) == 0) = false := beq_eq_false_iff_ne.2 (by omega)
          have hll : l.length ≤ 1048576 := by simp at hlk; omega
          clear hln
          go_wp2_with fail
          refine (min_any c _ _ ps b _ x l _ (Lib.hid (hC.out.chg HCr.out)) HBk hrn HT HLT hll).mono ?_
          rintro e W9 ⟨rfl, H9⟩
          go_wp2_with fail
          go_ret2
          exact ⟨⟨_, 0, .inr ⟨HZ.out, _, HPL.out, .inr ⟨rfl, .inr ⟨x, l, HLL.out, rfl, rfl⟩⟩⟩, rfl⟩, HCr.out.trans H9.out (by simp)⟩
  · have k1b : (er == 0) = false := beq_eq_false_iff_ne.2 k1
    go_wp2_with fail
    go_ret2
    exact ⟨⟨0, er, .inr ⟨HZ.out, _, HPL.out, .inl ⟨k1, rfl, rfl⟩⟩, rfl⟩, HC.out⟩
end Go.Proofs.YtjndgkbikhndoaaGreatDoor
