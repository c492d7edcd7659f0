/- Layer 14 (route): the walk of RouteMore. -/
import Derived.Test.YtjndgkbikhndoaaGreatDoorYJ
import Derived.Test.YtjndgkbikhndoaaGreatDoorYK
namespace Go.Proofs.YtjndgkbikhndoaaGreatDoor
open Go.RowKit Go.ChangeShapes Go.WideShapes
set_option linter.unusedVariables false
set_option linter.unusedSimpArgs false

theorem more_flds {w : World} {b : Nat} {n v : ByteArray} (h : Blk w b [.string n, .string v] 56) : Flds w (.slice (some ⟨b, 0, none⟩) 1 1) [(n, v)] := by
  refine ⟨_, 1, rfl, Nat.le_refl _, fun _ => ⟨b, 0, rfl, h.lt, fun j f hj => ?_⟩⟩
  match j, hj with
  | 0, hj =>
    obtain rfl : (n, v) = f := by simpa using hj
    exact ⟨h.cell 0 _ rfl, h.cell 1 _ rfl⟩
  | j + 1, hj => simp at hj
theorem ownF_form {B : Nat} {w : World} {v : Value} {fs : List Fd} (h : OwnF B w v fs) : ∃ A n c, v = .slice A n c := by
  obtain ⟨a, cap, e, -⟩ := h.flds
  exact ⟨a, _, cap, e⟩
theorem flds_set {B : Nat} {w : World} {v u : Value} {fs : List Fd} {p : Addr} (h : OwnF B w v fs) (hp : p.block < B) : Flds (w.setCell p u) v fs := by
  obtain ⟨a, cap, e, hcap, hr⟩ := h.flds
  refine ⟨a, cap, e, hcap, fun h0 => ?_⟩
  obtain ⟨bk, o, e2, hb, hx⟩ := hr h0
  have hB : B ≤ bk := (World.ownsRow.lt h bk (by rw [e, e2]; rfl)).1
  have hch : Chg [p.block] w (w.setCell p u) := (Chg.refl [p.block] w).setCell (by intro _; simp) u
  refine ⟨bk, o, e2, Nat.lt_of_lt_of_le hb hch.size, fun j f hj => ?_⟩
  obtain ⟨x1, x2⟩ := hx j f hj
  exact ⟨hch.cell x1 (by simp; omega), hch.cell x2 (by simp; omega)⟩
theorem place_fun {h : Hd} {r1 r2 : ByteArray × ByteArray × Int} (h1 : PlaceIs h r1) (h2 : PlaceIs h r2) : r1 = r2 := by
  rcases h1 with ⟨a1, rfl⟩ | ⟨a1, v, f, th, p, tp, q, a, er, hv, hp, rfl⟩
  · rcases h2 with ⟨-, rfl⟩ | ⟨a2, -⟩
    · rfl
    · rw [a1] at a2
      cases a2
  · rcases h2 with ⟨a2, -⟩ | ⟨-, v', f', th', p', tp', q', a', er', hv', hp', rfl⟩
    · rw [a1] at a2
      cases a2
    · obtain rfl : v = v' := hv.2.1.2.trans hv'.2.1.2.symm
      rw [hp] at hp'
      obtain ⟨b1, b2⟩ := Prod.mk.inj hp'
      obtain ⟨c1, c2, c3, c4, c5, c6⟩ := tgt_inj.1 b1
      subst c1 c2 c4
      rw [← b2]
theorem more_sz2 {h : Hd} {v : ByteArray} (hz : HdSz h) (hb : lensF h.fields + 3 * h.fields.length + v.size ≤ 1048576) : HdSz (h.more v) := by
  refine ⟨hz.method, hz.target, ?_, ?_, ?_⟩
  · show (h.fields ++ [(moreN, v)]).length ≤ _
    rw [List.length_append]
    simp
    omega
  · show lensF (h.fields ++ [(moreN, v)]) ≤ _
    unfold lensF at hb ⊢
    rw [List.map_append, List.sum_append]
    have : moreN.size = 6 := rfl
    simp [this]
    omega
  · intro f hf
    rcases List.mem_append.1 hf with hf | hf
    · exact hz.fs.2.2 f hf
    · rw [List.mem_singleton.1 hf]
      exact ⟨by show moreN.size ≤ _; decide +kernel, by show v.size ≤ _; omega⟩
theorem not_more {s : ByteArray} (h : s.size ≠ 6) : (s.toList == [88, 45, 77, 111, 114, 101]) = false := by
  rw [beq_eq_false_iff_ne]
  intro e
  have := congrArg List.length e
  rw [Lib.toList_data, toList_len] at this
  exact h this
set_option maxHeartbeats 16000000 in
set_option maxRecDepth 100000 in
theorem rmore_any (c : Cf) (hv rv : Value) (ps : List (Value × Value)) (h : Hd) (fv : Value) (val : ByteArray) (w : World) (hE : Hid (Env w)) (hC : Hid (CfAt w c hv rv ps)) (hS : Hid (CfSz c)) (hfs : Hid (Flds w fv h.fields)) (hn0 : Hid (Nil0 fv)) (hhz : Hid (HdSz h)) (hbd : lensF h.fields + 3 * h.fields.length + val.size ≤ 1048576) :
    Calls Tryz.prog 10 #[.agg (cfRow c hv rv).toArray, .agg (hdRow h fv).toArray, .string val] w fun e w' => e = .returned (.bool true) ∧ Hid (Chg [] w w') := by
  have hl1 : (c.hosts.map htRow).length = c.hosts.length := List.length_map _
  obtain ⟨A, cap, rfl⟩ := hC.out.hs.form
  rw [hl1] at hC ⊢
  have hl2 : ((c.routes.zip ps).map (fun x => rtRow x.1 x.2.1 x.2.2)).length = c.routes.length := by
    have := hC.out.rs.len
    rw [List.length_map, List.length_zip]
    omega
  obtain ⟨A2, cap2, rfl⟩ := hC.out.rs.tb.form
  rw [hl2] at hC ⊢
  have HL2 := Lib.hid hl2
  have hcap2 := hC.out.rs.tb.cap
  have hrn := hS.out.rn
  clear hl1 hl2
  have HB0 := Lib.hid ((Blk.new w (cfRow c (.slice A c.hosts.length cap) (.slice A2 c.routes.length cap2)) 36).alloc (.cells (hdRow h fv).toArray 27))
  have HG0 := Lib.hid (Blk.new (w.alloc (.cells (cfRow c (.slice A c.hosts.length cap) (.slice A2 c.routes.length cap2)).toArray 36)) (hdRow h fv) 27)
  rw [show (w.alloc (.cells (cfRow c (.slice A c.hosts.length cap) (.slice A2 c.routes.length cap2)).toArray 36)).heap.size = w.heap.size + 1 by simp] at HG0
  have HC0 := Lib.hid (((Chg.refl [] w).alloc (.cells (cfRow c (.slice A c.hosts.length cap) (.slice A2 c.routes.length cap2)).toArray 36)).alloc (.cells (hdRow h fv).toArray 27))
  change Calls Tryz.prog 10 #[.agg #[.slice A c.hosts.length cap, .slice A2 c.routes.length cap2, .int .i64 c.every, .int .i64 c.timeout, .int .i64 c.up, .int .i64 c.down, .string c.path, .int .i64 c.fails, .int .i64 c.base, .int .i64 c.longest, .int .i64 c.share, .int .i64 c.maxHead, .int .i64 c.maxBody, .int .i64 c.maxOut, .int .i64 c.headTime, .int .i64 c.idle, .int .i64 c.life, .int .i64 c.clients], .agg #[.bool h.request, .string h.method, .string h.target, .int .i64 h.minor, .int .i64 h.status, .string h.reason, fv], .string val] w _
  go_enter Tryz.func10, Tryz.ntmps10
  go_upto_region 1 with fail
  change Hid (Blk ((w.alloc (.cells #[.slice A c.hosts.length cap, .slice A2 c.routes.length cap2, .int .i64 c.every, .int .i64 c.timeout, .int .i64 c.up, .int .i64 c.down, .string c.path, .int .i64 c.fails, .int .i64 c.base, .int .i64 c.longest, .int .i64 c.share, .int .i64 c.maxHead, .int .i64 c.maxBody, .int .i64 c.maxOut, .int .i64 c.headTime, .int .i64 c.idle, .int .i64 c.life, .int .i64 c.clients] 36)).alloc (.cells #[.bool h.request, .string h.method, .string h.target, .int .i64 h.minor, .int .i64 h.status, .string h.reason, fv] 27)) _ _ _) at HB0
  change Hid (Blk ((w.alloc (.cells #[.slice A c.hosts.length cap, .slice A2 c.routes.length cap2, .int .i64 c.every, .int .i64 c.timeout, .int .i64 c.up, .int .i64 c.down, .string c.path, .int .i64 c.fails, .int .i64 c.base, .int .i64 c.longest, .int .i64 c.share, .int .i64 c.maxHead, .int .i64 c.maxBody, .int .i64 c.maxOut, .int .i64 c.headTime, .int .i64 c.idle, .int .i64 c.life, .int .i64 c.clients] 36)).alloc (.cells #[.bool h.request, .string h.method, .string h.target, .int .i64 h.minor, .int .i64 h.status, .string h.reason, fv] 27)) _ _ _) at HG0
  change Hid (Chg [] w ((w.alloc (.cells #[.slice A c.hosts.length cap, .slice A2 c.routes.length cap2, .int .i64 c.every, .int .i64 c.timeout, .int .i64 c.up, .int .i64 c.down, .string c.path, .int .i64 c.fails, .int .i64 c.base, .int .i64 c.longest, .int .i64 c.share, .int .i64 c.maxHead, .int .i64 c.maxBody, .int .i64 c.maxOut, .int .i64 c.headTime, .int .i64 c.idle, .int .i64 c.life, .int .i64 c.clients] 36)).alloc (.cells #[.bool h.request, .string h.method, .string h.target, .int .i64 h.minor, .int .i64 h.status, .string h.reason, fv] 27))) at HC0
  generalize (w.alloc (.cells #[.slice A c.hosts.length cap, .slice A2 c.routes.length cap2, .int .i64 c.every, .int .i64 c.timeout, .int .i64 c.up, .int .i64 c.down, .string c.path, .int .i64 c.fails, .int .i64 c.base, .int .i64 c.longest, .int .i64 c.share, .int .i64 c.maxHead, .int .i64 c.maxBody, .int .i64 c.maxOut, .int .i64 c.headTime, .int .i64 c.idle, .int .i64 c.life, .int .i64 c.clients] 36)).alloc (.cells #[.bool h.request, .string h.method, .string h.target, .int .i64 h.minor, .int .i64 h.status, .string h.reason, fv] 27) = W1 at HB0 HG0 HC0 ⊢
  obtain ⟨g, hg0⟩ : ∃ g, w.heap.size + 1 = g := ⟨_, rfl⟩
  rw [hg0] at HG0 ⊢
  obtain ⟨b, hb0⟩ : ∃ b, w.heap.size = b := ⟨_, rfl⟩
  rw [hb0] at HB0 ⊢
  have HNG := Lib.hid (show b < g from by omega)
  have HGW := Lib.hid (show w.heap.size ≤ g from by omega)
  clear hg0 hb0
  have HB := HB0
  have HG := HG0
  have HC := HC0
  clear HB0 HG0 HC0
  have c1 := HB.out.cell 1 _ rfl
  go_wp2_with fail
  clear c1
  go_loopw [17] (fun i wr => ∃ k : Nat, i = .int .i64 k ∧ k ≤ c.routes.length ∧ Hid (∀ (j : Nat) (r : Rt), j < k → c.routes[j]? = some r → r.m.header.size ≠ 6) ∧ Hid (Chg [] W1 wr)) (fun i _ => c.routes.length - (intOf i).toNat)
  case atStart => exact ⟨0, rfl, by omega, Lib.hid (fun j r hj => by omega), Lib.hid (Chg.refl _ _)⟩
  case round =>
    obtain ⟨k, rfl, hk, HNN, HCk⟩ := hrel
    have HCr := Lib.hid (HC.out.trans HCk.out (by simp))
    by_cases hlt : k < c.routes.length
    · obtain ⟨r, hr⟩ : ∃ r, c.routes[k]? = some r := ⟨_, List.getElem?_eq_getElem hlt⟩
      obtain ⟨p, hp⟩ : ∃ p, ps[k]? = some p := ⟨_, List.getElem?_eq_getElem (by rw [hC.out.rs.len]; exact hlt)⟩
      have hrow : ((c.routes.zip ps).map (fun x => rtRow x.1 x.2.1 x.2.2))[k]? = some (rtRow r p.1 p.2) := by
        rw [List.getElem?_map, (List.getElem?_zip_eq_some (z := (r, p))).2 ⟨hr, hp⟩]
        rfl
      have HRA := Lib.hid (hC.out.rs.each k r p hr hp)
      have HRR := Lib.hid hr
      obtain ⟨p1, p2⟩ := p
      dsimp only at HRA hrow
      obtain ⟨Am, cm, rfl⟩ := HRA.out.ms.form
      obtain ⟨Ah, ch, rfl⟩ := HRA.out.hs.form
      generalize hlm : (strRows r.m.methods).length = lm at *
      generalize hlh : (intRows r.hosts).length = lh at *
      clear hlm hlh
      obtain ⟨A3, cap3, e3, -, h3⟩ := hC.out.rs.tb
      injection e3 with e31 e32 e33
      subst e31
      obtain ⟨br, or, rfl, hbr, hx⟩ := h3 (by rw [HL2.out]; omega)
      have HLDr := Lib.hid (load_row 42 _ (rtRow r (.slice Am lm cm) (.slice Ah lh ch)) Tryz.underlying42 rfl (by kernel_rfl) (fun j x hj => HCr.out.cell (hx k _ hrow j x hj) (by simp)))
      have HST := Lib.hid (run_storeVar_new (P := Tryz.prog) wr 42 zeroRt (rtRow r (.slice Am lm cm) (.slice Ah lh ch)).toArray (by kernel_rfl) rfl (by simp [Value.oneCell', rtRow]))
      clear hx hrow hr hp h3 e32 e33 hbr
      go_upto_region 4 with (first | refine wpList_load_row rfl 42 _ rfl ⟨br, or + k * 21, none⟩ _ rfl HLDr.out ?_ | refine wpList_store_row rfl 42 _ _ rfl ⟨wr.heap.size, 0, none⟩ _ _ rfl rfl HST.out ?_)
      have HBL := Lib.hid (Blk.new wr (rtRow r (.slice Am lm cm) (.slice Ah lh ch)) 42)
      have HCz := Lib.hid (HCk.out.alloc (.cells (rtRow r (.slice Am lm cm) (.slice Ah lh ch)).toArray 42))
      generalize wr.alloc (.cells (rtRow r (.slice Am lm cm) (.slice Ah lh ch)).toArray 42) = Wz at HBL HCz ⊢
      generalize wr.heap.size = p at HBL ⊢
      have q3 := HBL.out.cell 3 _ rfl
      have HCw := Lib.hid (HC.out.trans HCz.out (by simp))
      clear HLDr HST HCk HCr HRA
      by_cases hs : r.m.header.size = 6
      · have hs6 : ((r.m.header.size : Int) == 6) = true := beq_iff_eq.2 (by omega)
        have HC := HCw
        cases he : (r.m.header.toList == [88, 45, 77, 111, 114, 101])
        · go_wp2_with fail
          refine (ospeaks_any _ (Lib.hid (hE.out.chg HC.out))).mono ?_
          rintro e W8 ⟨rfl, H8⟩
          go_wp2_with fail
          go_ret
          exact ⟨rfl, HC.out.trans H8.out (by simp)⟩
        · go_wp2_with fail
          refine (ospeaks_any _ (Lib.hid (hE.out.chg HC.out))).mono ?_
          rintro e W8 ⟨rfl, H8⟩
          go_wp2_with fail
          go_ret
          exact ⟨rfl, HC.out.trans H8.out (by simp)⟩
      · have hs6 : ((r.m.header.size : Int) == 6) = false := beq_eq_false_iff_ne.2 (by omega)
        have he := not_more hs
        have HN2 := Lib.hid (show ∀ (j : Nat) (r : Rt), j < k + 1 → c.routes[j]? = some r → r.m.header.size ≠ 6 from fun j r' hj hr' => by
          rcases Nat.lt_or_ge j k with q | q
          · exact HNN.out j r' q hr'
          · obtain rfl : j = k := by omega
            rw [HRR.out] at hr'
            injection hr' with hr'
            rw [← hr']
            exact hs)
        clear hs
        go_wp2_with fail
        go_roundw
        case rel => exact ⟨k + 1, by go_num, by omega, HN2, HCz⟩
        case measure => simp [intOf]; omega
    · obtain rfl : k = c.routes.length := by omega
      have HALL := Lib.hid (show ∀ r, r ∈ c.routes → r.m.header.size ≠ 6 from fun r hr => by
        obtain ⟨j, hj, e⟩ := List.getElem_of_mem hr
        exact HNN.out j r hj (by rw [List.getElem?_eq_getElem hj, e]))
      clear HCr
      have HB2 := Lib.hid (HB.out.chg HCk.out (by simp))
      have HG2 := Lib.hid (HG.out.chg HCk.out (by simp))
      have HC2 := Lib.hid (HC.out.trans HCk.out (by simp))
      clear HB HC HG
      have HB := HB2
      have HC := HC2
      have HG := HG2
      clear HB2 HC2 HG2
      clear HNN hk hlt
      generalize wr = Wm at *
      have HL0 := Lib.hid (cf_load HB.out)
      have HLG := Lib.hid (hd_load HG.out)
      go_wp2_with (first | refine wpList_load_row rfl 36 _ rfl ⟨b, 0, none⟩ _ rfl HL0.out ?_ | refine wpList_load_row rfl 27 _ rfl ⟨g, 0, none⟩ _ rfl HLG.out ?_)
      refine (find_any c _ _ ps h fv _ (Lib.hid (hE.out.chg HC.out)) (Lib.hid (hC.out.chg HC.out)) hS (Lib.hid (hfs.out.chg HC.out)) hhz).mono ?_
      rintro e W3 ⟨⟨i1, e1, hF1, rfl⟩, H3⟩
      have HF1 := Lib.hid hF1
      clear HL0 HLG hF1
      have HB2 := Lib.hid (HB.out.chg H3.out (by simp))
      have HG2 := Lib.hid (HG.out.chg H3.out (by simp))
      have HC2 := Lib.hid (HC.out.trans H3.out (by simp))
      clear HB HC HG
      have HB := HB2
      have HC := HC2
      have HG := HG2
      clear HB2 HC2 HG2
      have hfl : h.fields.length ≤ 1048576 := by omega
      obtain ⟨v5, w5, hr5, ho5, hg5⟩ := run_appF 25 W3.heap.size W3 (.slice none 0 0) fv 0 [] h.fields (World.ownsRow_nil _ _ _ _) (hfs.out.chg HC.out) hn0.out (by omega) (Nat.le_refl _)
      have HO5 := Lib.hid (OwnF.join (a := []) (b := h.fields) ho5)
      have HC5 := Lib.hid ((Chg.refl [] W3).grown hg5 (by intro q hq; cases hq))
      clear ho5 hg5
      rw [List.nil_append] at HO5
      have d6 := HG.out.cell 6 _ rfl
      have HB5 := Lib.hid (HB.out.chg HC5.out (by simp))
      have HG5 := Lib.hid (HG.out.chg HC5.out (by simp))
      have HCC5 := Lib.hid (HC.out.trans HC5.out (by simp))
      obtain ⟨v7, w7, hr7, ho7, hg7⟩ := run_appF 25 W3.heap.size (w5.alloc (.cells #[.string moreN, .string val] 56)) v5 (.slice (some ⟨w5.heap.size, 0, none⟩) 1 1) h.fields.length (fcells h.fields) [(moreN, val)] (ownsRow_chg HO5.out ((Chg.refl [] w5).alloc _)) (more_flds (Blk.new w5 [.string moreN, .string val] 56)) (by intro n c e; injection e with e; cases e) (by simp; omega) (by have := HC5.out.size; simp; omega)
      have HO7 := Lib.hid (OwnF.join (a := h.fields) (b := [(moreN, val)]) ho7)
      have HC7 := Lib.hid (Chg.grownOwn (HC5.out.alloc (.cells #[.string moreN, .string val] 56)) (ownsRow_chg HO5.out ((Chg.refl [] w5).alloc (.cells #[.string moreN, .string val] 56))) (Nat.le_refl _) hg7)
      clear ho7 hg7
      obtain ⟨A7, n7, c7, rfl⟩ := ownF_form HO7.out
      have HB7 := Lib.hid (HB.out.chg HC7.out (by simp))
      have HG7 := Lib.hid (HG.out.chg HC7.out (by simp))
      have HCC7 := Lib.hid (HC.out.trans HC7.out (by simp))
      have hgl : g < W3.heap.size := HG.out.lt
      clear HB HG HC HB5 HG5 HCC5
      unfold moreN at hr7
      go_upto_region 11 with (at_builtin; first | refine wpList_appF rfl _ _ rfl _ _ rfl rfl v5 w5 hr5 ?_ | refine wpList_appF rfl _ _ rfl _ _ rfl rfl _ w7 hr7 ?_)
      clear d6 hr5 hr7
      have d6 := HG7.out.cell 6 _ rfl
      have f6 := HG7.out.free 6
      go_upto_region 12 with fail
      have HG8 : Hid (Blk (w7.setCell ⟨g, 6, none⟩ (.slice A7 n7 c7)) g (hdRow (h.more val) (.slice A7 n7 c7)) 27) := Lib.hid (HG7.out.set 6 (.slice A7 n7 c7))
      have hbg : b ≠ g := by have := HNG.out; omega
      have HB8 := Lib.hid (HB7.out.other (a := ⟨g, 6, none⟩) (by show b ≠ g; exact hbg) (.slice A7 n7 c7))
      have HC8 := Lib.hid (HCC7.out.setCell (p := ⟨g, 6, none⟩) (by intro q; have := HGW.out; have : g < w.heap.size := q; omega) (.slice A7 n7 c7))
      have HF8 := Lib.hid (flds_set HO7.out (u := .slice A7 n7 c7) (p := ⟨g, 6, none⟩) hgl)
      clear d6 f6 HG7 HB7 HCC7 HO7 HC7 HC5 HO5 hgl hbg
      generalize w7.setCell ⟨g, 6, none⟩ (.slice A7 n7 c7) = W9 at *
      have HB := HB8
      have HG := HG8
      have HC := HC8
      clear HB8 HG8 HC8
      have HL0 := Lib.hid (cf_load HB.out)
      have HLG := Lib.hid (hd_load HG.out)
      go_wp2_with (first | refine wpList_load_row rfl 36 _ rfl ⟨b, 0, none⟩ _ rfl HL0.out ?_ | refine wpList_load_row rfl 27 _ rfl ⟨g, 0, none⟩ _ rfl HLG.out ?_)
      refine (find_any c _ _ ps (h.more val) (.slice A7 n7 c7) _ (Lib.hid (hE.out.chg HC.out)) (Lib.hid (hC.out.chg HC.out)) hS HF8 (Lib.hid (more_sz2 hhz.out hbd))).mono ?_
      rintro e Wa ⟨⟨i2, e2, hF2, rfl⟩, Ha⟩
      obtain ⟨rfl, rfl⟩ := more_law (fun r1 r2 h1 h2 => place_fun h1 h2) HALL.out HF1.out hF2
      clear HL0 HLG hF2
      have HB2 := Lib.hid (HB.out.chg Ha.out (by simp))
      have HG2 := Lib.hid (HG.out.chg Ha.out (by simp))
      have HC2 := Lib.hid (HC.out.trans Ha.out (by simp))
      clear HB HC HG
      have HB := HB2
      have HC := HC2
      have HG := HG2
      clear HB2 HC2 HG2
      go_wp2_with fail
      refine (ospeaks_any _ (Lib.hid (hE.out.chg HC.out))).mono ?_
      rintro e W8 ⟨rfl, H8⟩
      go_wp2_with fail
      go_ret
      exact ⟨rfl, HC.out.trans H8.out (by simp)⟩
end Go.Proofs.YtjndgkbikhndoaaGreatDoor
