/- Layer 14 (route): the walk of RouteIdle. -/
import Derived.Test.YtjndgkbikhndoaaGreatDoorYL
import Derived.Test.YtjndgkbikhndoaaGreatDoorX4
namespace Go.Proofs.YtjndgkbikhndoaaGreatDoor
open Go.RowKit Go.ChangeShapes Go.WideShapes
set_option linter.unusedVariables false
set_option linter.unusedSimpArgs false

theorem row_one2 {w : World} {v : Value} {rs : List Rt} {ps : List (Value × Value)} (h : RtsAt w v rs ps) {y : Rt × Value × Value} (hy : y ∈ rs.zip ps) : ∀ u, u ∈ rtRow y.1 y.2.1 y.2.2 → u.oneCell' = true := by
  obtain ⟨i, hi, e⟩ := List.getElem_of_mem hy
  have h1 : (rs.zip ps)[i]? = some y := by rw [List.getElem?_eq_getElem hi, e]
  obtain ⟨h2, h3⟩ := List.getElem?_zip_eq_some.1 h1
  have ha := h.each i _ _ h2 h3
  obtain ⟨A1, c1, e1⟩ := ha.ms.form
  obtain ⟨A2, c2, e2⟩ := ha.hs.form
  rw [e1, e2]
  intro u hu
  simp [rtRow] at hu
  rcases hu with rfl | rfl | rfl | rfl | rfl | rfl | rfl | rfl | rfl | rfl | rfl | rfl | rfl | rfl | rfl | rfl | rfl | rfl | rfl | rfl | rfl <;> rfl
/-- The route that takes nothing: its one method is the request's with X behind it. -/
def xB (me : ByteArray) : ByteArray := me ++ ⟨#[88]⟩
def Rt.idle (r : Rt) (me : ByteArray) : Rt := { r with m := { r.m with methods := [xB me] } }
theorem xB_size (me : ByteArray) : (xB me).size = me.size + 1 := by
  unfold xB
  rw [ByteArray.size_append]
  rfl
theorem idle_none (r : Rt) (h : Hd) (ho pa : ByteArray) : takesB (r.idle h.method).m h ho pa = false := by
  have e : methB (r.idle h.method).m h = false := by
    unfold methB
    have hc : Lib.containsS [xB h.method] h.method = false := by
      rw [Bool.eq_false_iff]
      intro q
      rw [Lib.containsS_iff, List.mem_singleton] at q
      have := congrArg ByteArray.size q
      rw [xB_size] at this
      omega
    show (decide (([xB h.method] : List ByteArray).length = 0) || Lib.containsS [xB h.method] h.method) = false
    rw [hc]
    rfl
  unfold takesB
  rw [e, Bool.false_and, Bool.and_false, Bool.and_false]
/-- A whole table is appended behind rows of one's own. -/
theorem run_catT (T e k bytes : Nat) (zv : Value) (ty B : Nat) (w : World) (v : Value) (rows0 rows : List (List Value)) (bh oh cap : Nat) (hT : Tryz.prog.underlying T = some (.slice e))
    (hinfo : (Tryz.prog.info? e).map (fun i => (i.zero, i.size, i.bytes)) = some (some zv, k, bytes)) (hzk : zv.cells.size = k) (hk0 : 0 < k) (ho : OwnT B e k w v rows0)
    (hx : ∀ (i : Nat) (r : List Value), rows[i]? = some r → ∀ (j : Nat) (x : Value), r[j]? = some x → w.cell? ⟨bh, oh + i * k + j, none⟩ = some x)
    (hk : ∀ r, r ∈ rows → r.length = k) (h1 : ∀ r, r ∈ rows → ∀ u, u ∈ r → u.oneCell' = true)
    (hl : rows0.length + rows.length ≤ 4000000) (hby : (rows0.length + rows.length) * bytes ≤ 140737488355328) (hB : B ≤ w.heap.size) :
    ∃ v' w', (Builtin.append_ #[T, T] ty #[v, .slice (some ⟨bh, oh, none⟩) rows.length cap]).run Tryz.prog w = .ok v' w' ∧ OwnT B e k w' v' (rows0 ++ rows) ∧ w.grownBy w' v.ownBlock := by
  obtain ⟨i0, hi, hz0, hz1, hz2⟩ := info_parts hinfo
  obtain ⟨v', w', q1, q2, q3, _⟩ := run_append_own (P := Tryz.prog) w B T ty e i0 _ k bytes hT hi hz0 hz1 hz2 hzk hk0 v rows0.length _ ho ⟨bh, oh, none⟩ rows.length cap rows.flatten (flat_len rows hk) (fun j u hj => by
    obtain ⟨i, r, t, a1, a2, a3⟩ := flat_inv rows hk j u hj
    rw [Addr.add_lit, a3, ← Nat.add_assoc]
    exact hx i r a1 t u a2) (fun u hu => by
    obtain ⟨r, hr, hu⟩ := List.mem_flatten.1 hu
    exact h1 r hr u hu) (by unfold maxLen; omega) hby hB
  refine ⟨v', w', q1, ?_, q3⟩
  unfold OwnT
  rw [List.length_append, List.flatten_append]
  exact q2
theorem idle_each {w w' : World} {v : Value} {rs : List Rt} {ps : List (Value × Value)} {r0 : Rt} {p0 : Value × Value} {me : ByteArray} {mv : Value} (h : RtsAt w v rs ps) (hr0 : rs[0]? = some r0) (hp0 : ps[0]? = some p0) (hc : Chg [] w w') (hm : Tbl w' mv 1 (strRows [xB me])) {v' : Value}
    (ht : Tbl w' v' 21 (rtRow (r0.idle me) mv p0.2 :: (rs.zip ps).map (fun x => rtRow x.1 x.2.1 x.2.2))) : RtsAt w' v' (r0.idle me :: rs) ((mv, p0.2) :: ps) := by
  refine ⟨by simp [h.len], ht, fun i r p hr hp => ?_⟩
  match i, hr, hp with
  | 0, hr, hp =>
    obtain rfl : r0.idle me = r := by simpa using hr
    obtain rfl : (mv, p0.2) = p := by simpa using hp
    exact ⟨hm, ((h.each 0 r0 p0 hr0 hp0).chg hc).hs⟩
  | i + 1, hr, hp => exact (h.each i r p (by simpa using hr) (by simpa using hp)).chg hc
theorem right_len {c : Cf} (h : rightB c = true) : 1 ≤ c.routes.length ∧ c.routes.length ≤ 16 := by
  unfold rightB at h
  simp only [Bool.and_eq_true, decide_eq_true_eq] at h
  exact h.1.1.1.1.1.2
theorem own_set {B e k : Nat} {w : World} {v u : Value} {rows : List (List Value)} {p : Addr} (h : OwnT B e k w v rows) (hk : ∀ r, r ∈ rows → r.length = k) (hp : p.block < B) : Tbl (w.setCell p u) v k rows := by
  obtain ⟨A, cap, rfl, hcap, hr⟩ := h.tbl hk
  refine ⟨A, cap, rfl, hcap, fun h0 => ?_⟩
  obtain ⟨bk, o, rfl, hb, hx⟩ := hr h0
  have hB : B ≤ bk := (h.own_lt bk rfl).1
  have hch : Chg [p.block] w (w.setCell p u) := (Chg.refl [p.block] w).setCell (by intro _; simp) u
  exact ⟨bk, o, rfl, Nat.lt_of_lt_of_le hb hch.size, fun i r hi j x hj => hch.cell (hx i r hi j x hj) (by simp; omega)⟩
theorem idle_sz {c : Cf} {r : Rt} {me : ByteArray} (hS : CfSz c) (hr : r ∈ c.routes) (hm : me.size + 1 ≤ 1048576) (hn : c.routes.length ≤ 16) : CfSz { c with routes := r.idle me :: c.routes } := by
  refine ⟨hS.hs, fun q hq => ?_, hS.hn, ?_, hS.path⟩
  · rcases List.mem_cons.1 hq with rfl | hq
    · have q0 := hS.rs r hr
      refine ⟨⟨q0.m.host, q0.m.pre, fun t ht => ?_, ?_, q0.m.header, q0.m.value⟩, q0.hn⟩
      · have ht : t ∈ [xB me] := ht
        rw [List.mem_singleton.1 ht, xB_size]
        exact hm
      · show 1 ≤ 1048576
        decide
    · exact hS.rs q hq
  · show (r.idle me :: c.routes).length ≤ _
    rw [List.length_cons]
    omega
theorem find_int {c : Cf} {h : Hd} {i e : Int} (hF : FindIs c h i e) : 0 ≤ i ∧ i ≤ c.routes.length := by
  rcases hF with ⟨-, rfl, -⟩ | ⟨-, r, -, ⟨-, rfl, -⟩ | ⟨-, ⟨-, rfl, -⟩ | ⟨x, l, hl, rfl, -⟩⟩⟩
  · omega
  · omega
  · omega
  · obtain ⟨-, -, -, hlt⟩ := best_in hl
    omega
set_option maxHeartbeats 16000000 in
set_option maxRecDepth 100000 in
theorem ridle_any (c : Cf) (hv rv : Value) (ps : List (Value × Value)) (h : Hd) (fv : Value) (w : World) (hE : Hid (Env w)) (hC : Hid (CfAt w c hv rv ps)) (hS : Hid (CfSz c)) (hfs : Hid (Flds w fv h.fields)) (hhz : Hid (HdSz h)) (hm1 : h.method.size + 1 ≤ 1048576) :
    Calls Tryz.prog 9 #[.agg (cfRow c hv rv).toArray, .agg (hdRow h fv).toArray] w fun e w' => e = .returned (.bool true) ∧ Hid (Chg [] w w') := by
  have hl1 : (c.hosts.map htRow).length = c.hosts.length := List.length_map _
  obtain ⟨A, cap, rfl⟩ := hC.out.hs.form
  rw [hl1] at hC ⊢
  have hl2 : ((c.routes.zip ps).map (fun x => rtRow x.1 x.2.1 x.2.2)).length = c.routes.length := by
    have := hC.out.rs.len
    rw [List.length_map, List.length_zip]
    omega
  obtain ⟨A2, cap2, rfl⟩ := hC.out.rs.tb.form
  rw [hl2] at hC ⊢
  have HL2 := Lib.hid hl2
  have hcap2 := hC.out.rs.tb.cap
  have hrn := hS.out.rn
  clear hl1 hl2
  have HB0 := Lib.hid ((Blk.new w (cfRow c (.slice A c.hosts.length cap) (.slice A2 c.routes.length cap2)) 36).alloc (.cells (hdRow h fv).toArray 27))
  have HG0 := Lib.hid (Blk.new (w.alloc (.cells (cfRow c (.slice A c.hosts.length cap) (.slice A2 c.routes.length cap2)).toArray 36)) (hdRow h fv) 27)
  rw [show (w.alloc (.cells (cfRow c (.slice A c.hosts.length cap) (.slice A2 c.routes.length cap2)).toArray 36)).heap.size = w.heap.size + 1 by simp] at HG0
  have HC0 := Lib.hid (((Chg.refl [] w).alloc (.cells (cfRow c (.slice A c.hosts.length cap) (.slice A2 c.routes.length cap2)).toArray 36)).alloc (.cells (hdRow h fv).toArray 27))
  obtain ⟨z, hz⟩ : ∃ z, rightB c = z := ⟨_, rfl⟩
  have HZ := Lib.hid hz
  clear hz
  change Calls Tryz.prog 9 #[.agg #[.slice A c.hosts.length cap, .slice A2 c.routes.length cap2, .int .i64 c.every, .int .i64 c.timeout, .int .i64 c.up, .int .i64 c.down, .string c.path, .int .i64 c.fails, .int .i64 c.base, .int .i64 c.longest, .int .i64 c.share, .int .i64 c.maxHead, .int .i64 c.maxBody, .int .i64 c.maxOut, .int .i64 c.headTime, .int .i64 c.idle, .int .i64 c.life, .int .i64 c.clients], .agg #[.bool h.request, .string h.method, .string h.target, .int .i64 h.minor, .int .i64 h.status, .string h.reason, fv]] w _
  go_enter Tryz.func9, Tryz.ntmps9
  go_upto_region 1 with fail
  change Hid (Blk ((w.alloc (.cells #[.slice A c.hosts.length cap, .slice A2 c.routes.length cap2, .int .i64 c.every, .int .i64 c.timeout, .int .i64 c.up, .int .i64 c.down, .string c.path, .int .i64 c.fails, .int .i64 c.base, .int .i64 c.longest, .int .i64 c.share, .int .i64 c.maxHead, .int .i64 c.maxBody, .int .i64 c.maxOut, .int .i64 c.headTime, .int .i64 c.idle, .int .i64 c.life, .int .i64 c.clients] 36)).alloc (.cells #[.bool h.request, .string h.method, .string h.target, .int .i64 h.minor, .int .i64 h.status, .string h.reason, fv] 27)) _ _ _) at HB0
  change Hid (Blk ((w.alloc (.cells #[.slice A c.hosts.length cap, .slice A2 c.routes.length cap2, .int .i64 c.every, .int .i64 c.timeout, .int .i64 c.up, .int .i64 c.down, .string c.path, .int .i64 c.fails, .int .i64 c.base, .int .i64 c.longest, .int .i64 c.share, .int .i64 c.maxHead, .int .i64 c.maxBody, .int .i64 c.maxOut, .int .i64 c.headTime, .int .i64 c.idle, .int .i64 c.life, .int .i64 c.clients] 36)).alloc (.cells #[.bool h.request, .string h.method, .string h.target, .int .i64 h.minor, .int .i64 h.status, .string h.reason, fv] 27)) _ _ _) at HG0
  change Hid (Chg [] w ((w.alloc (.cells #[.slice A c.hosts.length cap, .slice A2 c.routes.length cap2, .int .i64 c.every, .int .i64 c.timeout, .int .i64 c.up, .int .i64 c.down, .string c.path, .int .i64 c.fails, .int .i64 c.base, .int .i64 c.longest, .int .i64 c.share, .int .i64 c.maxHead, .int .i64 c.maxBody, .int .i64 c.maxOut, .int .i64 c.headTime, .int .i64 c.idle, .int .i64 c.life, .int .i64 c.clients] 36)).alloc (.cells #[.bool h.request, .string h.method, .string h.target, .int .i64 h.minor, .int .i64 h.status, .string h.reason, fv] 27))) at HC0
  generalize (w.alloc (.cells #[.slice A c.hosts.length cap, .slice A2 c.routes.length cap2, .int .i64 c.every, .int .i64 c.timeout, .int .i64 c.up, .int .i64 c.down, .string c.path, .int .i64 c.fails, .int .i64 c.base, .int .i64 c.longest, .int .i64 c.share, .int .i64 c.maxHead, .int .i64 c.maxBody, .int .i64 c.maxOut, .int .i64 c.headTime, .int .i64 c.idle, .int .i64 c.life, .int .i64 c.clients] 36)).alloc (.cells #[.bool h.request, .string h.method, .string h.target, .int .i64 h.minor, .int .i64 h.status, .string h.reason, fv] 27) = W1 at HB0 HG0 HC0 ⊢
  obtain ⟨g, hg0⟩ : ∃ g, w.heap.size + 1 = g := ⟨_, rfl⟩
  rw [hg0] at HG0 ⊢
  obtain ⟨b, hb0⟩ : ∃ b, w.heap.size = b := ⟨_, rfl⟩
  rw [hb0] at HB0 ⊢
  have HNG := Lib.hid (show b < g from by omega)
  have HBW := Lib.hid (show w.heap.size ≤ b from by omega)
  clear hg0 hb0
  have HB := HB0
  have HG := HG0
  have HC := HC0
  clear HB0 HG0 HC0
  have HL0 := Lib.hid (cf_load HB.out)
  go_wp2_with (first | refine wpList_load_row rfl 36 _ rfl ⟨b, 0, none⟩ _ rfl HL0.out ?_ | refine wpList_load_row rfl 27 _ rfl ⟨g, 0, none⟩ _ rfl HLG.out ?_)
  refine (rcheck_any c _ _ ps _ (Lib.hid (hC.out.chg HC.out)) hS z HZ.out).mono ?_
  rintro e W3 ⟨rfl, H3⟩
  clear HL0
  have HB2 := Lib.hid (HB.out.chg H3.out (by simp))
  have HG2 := Lib.hid (HG.out.chg H3.out (by simp))
  have HC2 := Lib.hid (HC.out.trans H3.out (by simp))
  clear HB HC HG
  have HB := HB2
  have HC := HC2
  have HG := HG2
  clear HB2 HC2 HG2
  have c1 := HB.out.cell 1 _ rfl
  cases z
  · rw [show ok3 false = 3 from rfl]
    go_wp2_with fail
    refine (ospeaks_any _ (Lib.hid (hE.out.chg HC.out))).mono ?_
    rintro e W8 ⟨rfl, H8⟩
    go_wp2_with fail
    go_ret
    exact ⟨rfl, HC.out.trans H8.out (by simp)⟩
  rw [show ok3 true = 0 from rfl]
  obtain ⟨hr1, hr16⟩ := right_len HZ.out
  by_cases h16 : c.routes.length = 16
  · have e16 : ((c.routes.length : Int) == 16) = true := beq_iff_eq.2 (by omega)
    go_wp2_with fail
    refine (ospeaks_any _ (Lib.hid (hE.out.chg HC.out))).mono ?_
    rintro e W8 ⟨rfl, H8⟩
    go_wp2_with fail
    go_ret
    exact ⟨rfl, HC.out.trans H8.out (by simp)⟩
  have e16 : ((c.routes.length : Int) == 16) = false := beq_eq_false_iff_ne.2 (by omega)
  have HL0 := Lib.hid (cf_load HB.out)
  have HLG := Lib.hid (hd_load HG.out)
  go_wp2_with (first | refine wpList_load_row rfl 36 _ rfl ⟨b, 0, none⟩ _ rfl HL0.out ?_ | refine wpList_load_row rfl 27 _ rfl ⟨g, 0, none⟩ _ rfl HLG.out ?_)
  refine (find_any c _ _ ps h fv _ (Lib.hid (hE.out.chg HC.out)) (Lib.hid (hC.out.chg HC.out)) hS (Lib.hid (hfs.out.chg HC.out)) hhz).mono ?_
  rintro e W4 ⟨⟨i1, e1, hF1, rfl⟩, H4⟩
  have HF1 := Lib.hid hF1
  clear HL0 HLG hF1 c1
  have HB2 := Lib.hid (HB.out.chg H4.out (by simp))
  have HG2 := Lib.hid (HG.out.chg H4.out (by simp))
  have HC2 := Lib.hid (HC.out.trans H4.out (by simp))
  clear HB HC HG
  have HB := HB2
  have HC := HC2
  have HG := HG2
  clear HB2 HC2 HG2
  obtain ⟨r, hr⟩ : ∃ r, c.routes[0]? = some r := ⟨_, List.getElem?_eq_getElem (by omega)⟩
  obtain ⟨p0, hp⟩ : ∃ p0, ps[0]? = some p0 := ⟨_, List.getElem?_eq_getElem (by rw [hC.out.rs.len]; omega)⟩
  have hrow : ((c.routes.zip ps).map (fun x => rtRow x.1 x.2.1 x.2.2))[0]? = some (rtRow r p0.1 p0.2) := by
    rw [List.getElem?_map, (List.getElem?_zip_eq_some (z := (r, p0))).2 ⟨hr, hp⟩]
    rfl
  have HRA := Lib.hid (hC.out.rs.each 0 r p0 hr hp)
  have HRR := Lib.hid hr
  obtain ⟨p1, p2⟩ := p0
  dsimp only at HRA hrow
  obtain ⟨Am, cm, rfl⟩ := HRA.out.ms.form
  obtain ⟨Ah, ch, rfl⟩ := HRA.out.hs.form
  generalize hlm : (strRows r.m.methods).length = lm at *
  generalize hlh : (intRows r.hosts).length = lh at *
  clear hlm hlh
  have HPP := Lib.hid hp
  obtain ⟨A3, cap3, e3, -, h3⟩ := hC.out.rs.tb
  injection e3 with e31 e32 e33
  subst e31
  obtain ⟨br, or, rfl, hbr, hx⟩ := h3 (by rw [HL2.out]; omega)
  have HX := Lib.hid hx
  have hx0 := hx 0 _ hrow
  simp only [Nat.zero_mul, Nat.add_zero] at hx0
  have HLDr := Lib.hid (load_row 42 _ (rtRow r (.slice Am lm cm) (.slice Ah lh ch)) Tryz.underlying42 rfl (by kernel_rfl) (fun j x hj => HC.out.cell (hx0 j x hj) (by simp)))
  have HST := Lib.hid (run_storeVar_new (P := Tryz.prog) W4 42 zeroRt (rtRow r (.slice Am lm cm) (.slice Ah lh ch)).toArray (by kernel_rfl) rfl (by simp [Value.oneCell', rtRow]))
  have c1 := HB.out.cell 1 _ rfl
  clear hx hx0 hrow hr hp h3 e32 e33 hbr
  go_upto_region 5 with (first | refine wpList_load_row rfl 42 _ rfl ⟨br, or, none⟩ _ rfl HLDr.out ?_ | refine wpList_store_row rfl 42 _ _ rfl ⟨W4.heap.size, 0, none⟩ _ _ rfl rfl HST.out ?_)
  clear HLDr HST c1
  have HBL := Lib.hid (Blk.new W4 (rtRow r (.slice Am lm cm) (.slice Ah lh ch)) 42)
  have HA := Lib.hid ((Chg.refl [] W4).alloc (.cells (rtRow r (.slice Am lm cm) (.slice Ah lh ch)).toArray 42))
  have HGP := Lib.hid HG.out.lt
  have HWP := Lib.hid HC.out.size
  have HB2 := Lib.hid (HB.out.chg HA.out (by simp))
  have HG2 := Lib.hid (HG.out.chg HA.out (by simp))
  have HC2 := Lib.hid (HC.out.trans HA.out (by simp))
  clear HB HC HG
  have HB := HB2
  have HC := HC2
  have HG := HG2
  clear HB2 HC2 HG2
  clear HA
  generalize W4.alloc (.cells (rtRow r (.slice Am lm cm) (.slice Ah lh ch)).toArray 42) = W5 at *
  generalize W4.heap.size = p at *
  have d1 := HG.out.cell 1 _ rfl
  have HBA := Lib.hid (HBL.out.alloc (.cells #[.string (h.method ++ ⟨#[88]⟩)] 9))
  have HMB := Lib.hid (Blk.new W5 [.string (h.method ++ ⟨#[88]⟩)] 9)
  have HPM := Lib.hid HBL.out.lt
  have q2 := HBA.out.cell 2 _ rfl
  have f2 := HBA.out.free 2
  go_upto_region 6 with fail
  clear d1 q2 f2
  have hpg : g ≠ p := by have := HGP.out; omega
  have hpb : b ≠ p := by have := HGP.out; have := HNG.out; omega
  have hpm : W5.heap.size ≠ p := by have := HPM.out; omega
  have HBM : Hid (Blk ((W5.alloc (.cells #[.string (h.method ++ ⟨#[88]⟩)] 9)).setCell ⟨p, 2, none⟩ (.slice (some ⟨W5.heap.size, 0, none⟩) 1 1)) p (rtRow (r.idle h.method) (.slice (some ⟨W5.heap.size, 0, none⟩) 1 1) (.slice Ah lh ch)) 42) := Lib.hid (HBA.out.set 2 (.slice (some ⟨W5.heap.size, 0, none⟩) 1 1))
  have HMM := Lib.hid (HMB.out.other (a := ⟨p, 2, none⟩) (by show W5.heap.size ≠ p; exact hpm) (.slice (some ⟨W5.heap.size, 0, none⟩) 1 1))
  have HB6 := Lib.hid ((HB.out.alloc (.cells #[.string (h.method ++ ⟨#[88]⟩)] 9)).other (a := ⟨p, 2, none⟩) (by show b ≠ p; exact hpb) (.slice (some ⟨W5.heap.size, 0, none⟩) 1 1))
  have HG6 := Lib.hid ((HG.out.alloc (.cells #[.string (h.method ++ ⟨#[88]⟩)] 9)).other (a := ⟨p, 2, none⟩) (by show g ≠ p; exact hpg) (.slice (some ⟨W5.heap.size, 0, none⟩) 1 1))
  have HC6 := Lib.hid ((HC.out.alloc (.cells #[.string (h.method ++ ⟨#[88]⟩)] 9)).setCell (p := ⟨p, 2, none⟩) (by intro q; have := HWP.out; have : p < w.heap.size := q; omega) (.slice (some ⟨W5.heap.size, 0, none⟩) 1 1))
  clear HB HG HC HBL HBA HMB hpg hpb hpm
  generalize (W5.alloc (.cells #[.string (h.method ++ ⟨#[88]⟩)] 9)).setCell ⟨p, 2, none⟩ (.slice (some ⟨W5.heap.size, 0, none⟩) 1 1) = W6 at *
  generalize W5.heap.size = m at *
  have HB := HB6
  have HG := HG6
  have HC := HC6
  clear HB6 HG6 HC6
  have HLR := Lib.hid (show (loadVar 42 ⟨p, 0, none⟩).run Tryz.prog W6 = .ok (.agg #[.string r.m.host, .string r.m.pre, .slice (some ⟨m, 0, none⟩) 1 1, .string r.m.header, .string r.m.value, .slice Ah lh ch, .int .i64 r.rate, .int .i64 r.per, .int .i64 r.burst, .int .i64 r.opn, .int .i64 r.fails, .int .i64 r.cool, .int .i64 r.probes, .int .i64 r.percent, .int .i64 r.min, .int .i64 r.window, .int .i64 r.retries, .int .i64 r.hedges, .int .i64 r.hedgeAfter, .int .i64 r.perTry, .int .i64 r.total]) W6 from load_row 42 _ (rtRow (r.idle h.method) (.slice (some ⟨m, 0, none⟩) 1 1) (.slice Ah lh ch)) Tryz.underlying42 rfl (by kernel_rfl) (fun j x hj => by rw [Nat.zero_add]; exact HBM.out.cell j x hj))
  obtain ⟨v7, w7, hr7, ho7, hg7⟩ := run_pushT 34 42 21 232 _ 34 W6.heap.size (W6.alloc (.cells #[.string r.m.host, .string r.m.pre, .slice (some ⟨m, 0, none⟩) 1 1, .string r.m.header, .string r.m.value, .slice Ah lh ch, .int .i64 r.rate, .int .i64 r.per, .int .i64 r.burst, .int .i64 r.opn, .int .i64 r.fails, .int .i64 r.cool, .int .i64 r.probes, .int .i64 r.percent, .int .i64 r.min, .int .i64 r.window, .int .i64 r.retries, .int .i64 r.hedges, .int .i64 r.hedgeAfter, .int .i64 r.perTry, .int .i64 r.total] 42)) (.slice none 0 0) [] (rtRow (r.idle h.method) (.slice (some ⟨m, 0, none⟩) 1 1) (.slice Ah lh ch)) W6.heap.size Tryz.underlying34 info42 rfl (by decide) (OwnT.nil _ _ _ _) (Blk.new _ _ _) rfl (by simp [Value.oneCell', rtRow]) (by simp) (by simp) (by simp)
  have HO7 := Lib.hid ho7
  have HC7 := Lib.hid (((Chg.refl [] W6).alloc (.cells #[.string r.m.host, .string r.m.pre, .slice (some ⟨m, 0, none⟩) 1 1, .string r.m.header, .string r.m.value, .slice Ah lh ch, .int .i64 r.rate, .int .i64 r.per, .int .i64 r.burst, .int .i64 r.opn, .int .i64 r.fails, .int .i64 r.cool, .int .i64 r.probes, .int .i64 r.percent, .int .i64 r.min, .int .i64 r.window, .int .i64 r.retries, .int .i64 r.hedges, .int .i64 r.hedgeAfter, .int .i64 r.perTry, .int .i64 r.total] 42)).grown hg7 (by intro q hq; cases hq))
  clear ho7 hg7
  rw [List.nil_append] at HO7
  go_upto_region 8 with (first | refine wpList_load_row rfl 42 _ rfl ⟨p, 0, none⟩ _ rfl HLR.out ?_ | (at_builtin; refine wpList_appT rfl 34 _ _ rfl _ _ rfl rfl v7 w7 hr7 ?_))
  clear HLR hr7
  have HB7 := Lib.hid (HB.out.chg HC7.out (by simp))
  have HG7 := Lib.hid (HG.out.chg HC7.out (by simp))
  have HCC7 := Lib.hid (HC.out.trans HC7.out (by simp))
  have hB7 : W6.heap.size ≤ w7.heap.size := HC7.out.size
  obtain ⟨v9, w9, hr9, ho9, hg9⟩ := run_catT 34 42 21 232 _ 34 W6.heap.size w7 v7 [rtRow (r.idle h.method) (.slice (some ⟨m, 0, none⟩) 1 1) (.slice Ah lh ch)] ((c.routes.zip ps).map (fun x => rtRow x.1 x.2.1 x.2.2)) br or cap2 Tryz.underlying34 info42 rfl (by decide) HO7.out (fun i r hr j x hj => HCC7.out.cell (HX.out i r hr j x hj) (by simp)) (by intro r hr; obtain ⟨y, -, rfl⟩ := List.mem_map.1 hr; rfl) (by intro r hr; obtain ⟨y, hy, rfl⟩ := List.mem_map.1 hr; exact row_one2 hC.out.rs hy) (by rw [HL2.out]; simp; omega) (by rw [HL2.out]; simp; omega) hB7
  rw [HL2.out] at hr9
  have HO9 := Lib.hid ho9
  have HC9 := Lib.hid (Chg.grownOwn HC7.out HO7.out (Nat.le_refl _) hg9)
  clear ho9 hg9
  obtain ⟨A9, c9, rfl⟩ := HO9.out.form
  generalize hn9 : ([rtRow (r.idle h.method) (.slice (some ⟨m, 0, none⟩) 1 1) (.slice Ah lh ch)] ++ (c.routes.zip ps).map (fun x => rtRow x.1 x.2.1 x.2.2)).length = n9 at *
  clear hn9
  have c1 := HB7.out.cell 1 _ rfl
  go_upto_region 9 with (at_builtin; refine wpList_appT rfl 34 _ _ rfl _ _ rfl rfl _ w9 hr9 ?_)
  clear c1 hr9 HB7 HG7 HCC7
  have HB9 := Lib.hid (HB.out.chg HC9.out (by simp))
  have HG9 := Lib.hid (HG.out.chg HC9.out (by simp))
  have HCC9 := Lib.hid (HC.out.trans HC9.out (by simp))
  have HM9 := Lib.hid (HMM.out.chg HC9.out (by simp))
  have c1 := HB9.out.cell 1 _ rfl
  have f1 := HB9.out.free 1
  go_upto_region 10 with fail
  have hbm : m ≠ b := by have := HPM.out; have := HGP.out; have := HNG.out; omega
  have hbg : g ≠ b := by have := HNG.out; omega
  have hb6 : b < W6.heap.size := HB.out.lt
  have HBT : Hid (Blk (w9.setCell ⟨b, 1, none⟩ (.slice A9 n9 c9)) b (cfRow { c with routes := r.idle h.method :: c.routes } (.slice A c.hosts.length cap) (.slice A9 n9 c9)) 36) := Lib.hid (HB9.out.set 1 (.slice A9 n9 c9))
  have HGT := Lib.hid (HG9.out.other (a := ⟨b, 1, none⟩) (by show g ≠ b; exact hbg) (.slice A9 n9 c9))
  have HMT := Lib.hid (HM9.out.other (a := ⟨b, 1, none⟩) (by show m ≠ b; exact hbm) (.slice A9 n9 c9))
  have HCT := Lib.hid (HCC9.out.setCell (p := ⟨b, 1, none⟩) (by intro q; have := HBW.out; have : b < w.heap.size := q; omega) (.slice A9 n9 c9))
  have HTT := Lib.hid (own_set (u := .slice A9 n9 c9) (p := ⟨b, 1, none⟩) HO9.out (by intro r hr; rcases List.mem_append.1 hr with hr | hr; (rw [List.mem_singleton.1 hr]; rfl); (obtain ⟨y, -, rfl⟩ := List.mem_map.1 hr; rfl)) hb6)
  clear c1 f1 HB HG HC HB9 HG9 HCC9 HM9 HMM HBM HO9 HO7 HC9 HC7 hbm hbg hb6 hB7
  generalize w9.setCell ⟨b, 1, none⟩ (.slice A9 n9 c9) = WT at *
  have HB := HBT
  have HG := HGT
  have HC := HCT
  clear HBT HGT HCT
  have HMS := Lib.hid (show Tbl WT (.slice (some ⟨m, 0, none⟩) 1 1) 1 (strRows [xB h.method]) from Tbl.ofBlk (rows := strRows [xB h.method]) HMT.out rfl (by intro r hr; obtain ⟨y, -, rfl⟩ := List.mem_map.1 hr; rfl))
  have HCF := Lib.hid (show CfAt WT { c with routes := r.idle h.method :: c.routes } (.slice A c.hosts.length cap) (.slice A9 n9 c9) ((.slice (some ⟨m, 0, none⟩) 1 1, .slice Ah lh ch) :: ps) from ⟨hC.out.hs.chg HC.out, idle_each hC.out.rs HRR.out HPP.out HC.out HMS.out HTT.out⟩)
  have HSZ := Lib.hid (idle_sz hS.out (List.mem_of_getElem? HRR.out) hm1 hr16)
  have HCW := HC
  clear HMT HTT HMS
  obtain ⟨z2, hz2⟩ : ∃ z2, rightB { c with routes := r.idle h.method :: c.routes } = z2 := ⟨_, rfl⟩
  have HZ2 := Lib.hid hz2
  clear hz2
  have HL0 := Lib.hid (cf_load HB.out)
  have HR0 := Lib.hid (Chg.refl [] WT)
  go_wp2_with (first | refine wpList_load_row rfl 36 _ rfl ⟨b, 0, none⟩ _ rfl HL0.out ?_ | refine wpList_load_row rfl 27 _ rfl ⟨g, 0, none⟩ _ rfl HLG.out ?_)
  refine (rcheck_any { c with routes := r.idle h.method :: c.routes } _ _ _ _ HCF HSZ z2 HZ2.out).mono ?_
  rintro e Wa ⟨rfl, Ha⟩
  clear HL0 HR0
  have HB2 := Lib.hid (HB.out.chg Ha.out (by simp))
  have HG2 := Lib.hid (HG.out.chg Ha.out (by simp))
  have HC2 := Lib.hid (HC.out.trans Ha.out (by simp))
  clear HB HC HG
  have HB := HB2
  have HC := HC2
  have HG := HG2
  clear HB2 HC2 HG2
  have HCF2 := Lib.hid (HCF.out.chg Ha.out)
  cases z2
  · rw [show ok3 false = 3 from rfl]
    go_wp2_with fail
    refine (ospeaks_any _ (Lib.hid (hE.out.chg HC.out))).mono ?_
    rintro e W8 ⟨rfl, H8⟩
    go_wp2_with fail
    go_ret
    exact ⟨rfl, HC.out.trans H8.out (by simp)⟩
  rw [show ok3 true = 0 from rfl]
  have HL0 := Lib.hid (cf_load HB.out)
  have HLG := Lib.hid (hd_load HG.out)
  go_wp2_with (first | refine wpList_load_row rfl 36 _ rfl ⟨b, 0, none⟩ _ rfl HL0.out ?_ | refine wpList_load_row rfl 27 _ rfl ⟨g, 0, none⟩ _ rfl HLG.out ?_)
  refine (find_any { c with routes := r.idle h.method :: c.routes } _ _ _ h fv _ (Lib.hid (hE.out.chg HC.out)) HCF2 HSZ (Lib.hid (hfs.out.chg HC.out)) hhz).mono ?_
  rintro e Wc ⟨⟨i2, e2, hF2, rfl⟩, Hc⟩
  have hlaw := idle_law (fun r1 r2 h1 h2 => place_fun h1 h2) HZ.out HZ2.out (idle_none r h) HF1.out hF2
  have hi1 := find_int HF1.out
  clear HL0 HLG hF2
  have HB2 := Lib.hid (HB.out.chg Hc.out (by simp))
  have HG2 := Lib.hid (HG.out.chg Hc.out (by simp))
  have HC2 := Lib.hid (HC.out.trans Hc.out (by simp))
  clear HB HC HG
  have HB := HB2
  have HC := HC2
  have HG := HG2
  clear HB2 HC2 HG2
  rcases hlaw with ⟨hne, rfl, rfl⟩ | ⟨rfl, rfl, rfl⟩
  · have hne2 : (e1 == 0) = false := beq_eq_false_iff_ne.2 hne
    go_wp2_with fail
    refine (ospeaks_any _ (Lib.hid (hE.out.chg HC.out))).mono ?_
    rintro e W8 ⟨rfl, H8⟩
    go_wp2_with fail
    go_ret
    exact ⟨rfl, HC.out.trans H8.out (by simp)⟩
  · obtain ⟨k, rfl⟩ : ∃ k : Nat, i1 = k := ⟨i1.toNat, by omega⟩
    have hkw : wrap64 ((k : Int) + 1) = (k : Int) + 1 := by unfold wrap64; omega
    go_wp2_with fail
    refine (ospeaks_any _ (Lib.hid (hE.out.chg HC.out))).mono ?_
    rintro e W8 ⟨rfl, H8⟩
    go_wp2_with fail
    go_ret
    exact ⟨rfl, HC.out.trans H8.out (by simp)⟩
end Go.Proofs.YtjndgkbikhndoaaGreatDoor
