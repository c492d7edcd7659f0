/- Layer 13 (config), the program: Timers. -/
import Derived.Test.YtjndgkbikhndoaaGreatDoorVA
namespace Go.Proofs.YtjndgkbikhndoaaGreatDoor
open Go.RowKit Go.ChangeShapes Go.WideShapes
set_option linter.unusedVariables false
set_option linter.unusedSimpArgs false

def mostK (c : Cf) (k : Nat) : Int := (c.routes.take k).foldl (fun m r => max m (r.retries + r.hedges + 1)) 0
theorem mostK_succ {c : Cf} {k : Nat} {x : Rt} (h : c.routes[k]? = some x) : mostK c (k + 1) = max (mostK c k) (x.retries + x.hedges + 1) := by
  unfold mostK
  rw [List.take_add_one, h, List.foldl_append]
  rfl
theorem mostK_all (c : Cf) : mostK c c.routes.length = mostN c := by
  unfold mostK mostN
  rw [List.take_length]
theorem Rgt.tries {c : Cf} (h : Rgt c) : ∀ x, x ∈ c.routes → (0 ≤ x.retries ∧ x.retries ≤ 5) ∧ (0 ≤ x.hedges ∧ x.hedges ≤ 3) := by
  intro x hx
  have := List.all_eq_true.1 h.ro x hx
  unfold routeOK at this
  simp only [Bool.and_eq_true] at this
  have := this.2
  unfold allR Rt.nums inR M6 at this
  simp at this
  omega
set_option maxHeartbeats 8000000 in
set_option maxRecDepth 100000 in
theorem timers_any (c : Cf) (hv rv : Value) (ps : List (Value × Value)) (w : World) (hE : Hid (Env w)) (hC : Hid (CfAt w c hv rv ps)) (hS : Hid (CfSz c)) (z : Bool) (hz : rightB c = z) :
    Calls Tryz.prog 21 #[.agg (cfRow c hv rv).toArray] w fun e w' => e = .returned (.tuple #[.int .i64 (okN z (timersN c)), .int .i64 (ok3 z)]) ∧ Hid (Chg [] w w') := by
  have hl1 : (c.hosts.map htRow).length = c.hosts.length := List.length_map _
  obtain ⟨A, cap, rfl⟩ := hC.out.hs.form
  rw [hl1] at hC ⊢
  have hl2 : ((c.routes.zip ps).map (fun x => rtRow x.1 x.2.1 x.2.2)).length = c.routes.length := by
    have := hC.out.rs.len
    rw [List.length_map, List.length_zip]
    omega
  obtain ⟨A2, cap2, rfl⟩ := hC.out.rs.tb.form
  rw [hl2] at hC ⊢
  have HL2 := Lib.hid hl2
  clear hl2
  obtain ⟨rv0, hrv⟩ : ∃ rv0, Value.slice A2 c.routes.length cap2 = rv0 := ⟨_, rfl⟩
  have HRV := Lib.hid hrv
  clear hrv
  have HCK := Lib.hid (fun W (hc : Hid (Chg [] w W)) => check_any c (.slice A c.hosts.length cap) (.slice A2 c.routes.length cap2) ps W (Lib.hid (hE.out.chg hc.out)) (Lib.hid (hC.out.chg hc.out)) hS z hz)
  have HB0 := Lib.hid (Blk.new w (cfRow c (.slice A c.hosts.length cap) (.slice A2 c.routes.length cap2)) 36)
  have HC0 := Lib.hid ((Chg.refl [] w).alloc (.cells (cfRow c (.slice A c.hosts.length cap) (.slice A2 c.routes.length cap2)).toArray 36))
  have HRG := Lib.hid (fun h : z = true => rgt_of (hz.trans h))
  clear hl1 hz
  change Calls Tryz.prog 21 #[.agg #[.slice A c.hosts.length cap, .slice A2 c.routes.length cap2, .int .i64 c.every, .int .i64 c.timeout, .int .i64 c.up, .int .i64 c.down, .string c.path, .int .i64 c.fails, .int .i64 c.base, .int .i64 c.longest, .int .i64 c.share, .int .i64 c.maxHead, .int .i64 c.maxBody, .int .i64 c.maxOut, .int .i64 c.headTime, .int .i64 c.idle, .int .i64 c.life, .int .i64 c.clients]] w _
  go_enter Tryz.func21, Tryz.ntmps21
  go_upto_region 1 with fail
  change Hid (Blk (w.alloc (.cells #[.slice A c.hosts.length cap, .slice A2 c.routes.length cap2, .int .i64 c.every, .int .i64 c.timeout, .int .i64 c.up, .int .i64 c.down, .string c.path, .int .i64 c.fails, .int .i64 c.base, .int .i64 c.longest, .int .i64 c.share, .int .i64 c.maxHead, .int .i64 c.maxBody, .int .i64 c.maxOut, .int .i64 c.headTime, .int .i64 c.idle, .int .i64 c.life, .int .i64 c.clients] 36)) _ _ _) at HB0
  change Hid (Chg [] w (w.alloc (.cells #[.slice A c.hosts.length cap, .slice A2 c.routes.length cap2, .int .i64 c.every, .int .i64 c.timeout, .int .i64 c.up, .int .i64 c.down, .string c.path, .int .i64 c.fails, .int .i64 c.base, .int .i64 c.longest, .int .i64 c.share, .int .i64 c.maxHead, .int .i64 c.maxBody, .int .i64 c.maxOut, .int .i64 c.headTime, .int .i64 c.idle, .int .i64 c.life, .int .i64 c.clients] 36))) at HC0
  generalize w.alloc (.cells #[.slice A c.hosts.length cap, .slice A2 c.routes.length cap2, .int .i64 c.every, .int .i64 c.timeout, .int .i64 c.up, .int .i64 c.down, .string c.path, .int .i64 c.fails, .int .i64 c.base, .int .i64 c.longest, .int .i64 c.share, .int .i64 c.maxHead, .int .i64 c.maxBody, .int .i64 c.maxOut, .int .i64 c.headTime, .int .i64 c.idle, .int .i64 c.life, .int .i64 c.clients] 36) = W1 at HB0 HC0 ⊢
  generalize w.heap.size = b at HB0 ⊢
  have HLD := Lib.hid (load_row 36 _ (cfRow c (.slice A c.hosts.length cap) (.slice A2 c.routes.length cap2)) Tryz.underlying36 rfl (by kernel_rfl) (fun j x hj => by rw [Nat.zero_add]; exact HB0.out.cell j x hj))
  go_wp2_with (refine wpList_load_row rfl 36 _ rfl ⟨b, 0, none⟩ _ rfl HLD.out ?_)
  refine (HCK.out _ HC0).mono ?_
  rintro e W2 ⟨rfl, H2⟩
  have HB := Lib.hid (HB0.out.chg H2.out (by simp))
  have HC := Lib.hid (HC0.out.trans H2.out (by simp))
  cases z
  · rw [show ok3 false = 3 from rfl]
    go_wp2_with fail
    go_ret2
    exact ⟨rfl, HC.out⟩
  · rw [show ok3 true = 0 from rfl]
    have hR := HRG.out rfl
    have hn := hR.nums
    have hcn := hR.capsN
    have h16 := hR.h2
    have r16 := hR.r2
    have HTR := Lib.hid hR.tries
    have HT0 := Lib.hid (show HtsAt W2 c (.slice A c.hosts.length cap) from ⟨hC.out.hs.chg HC.out, hR.h2, hR.caps⟩)
    have HTN := Lib.hid (show timersN c = 4 * c.clients + 3 * capsN c + 3 * c.hosts.length + mostN c * c.clients from rfl)
    have HMA := Lib.hid (mostK_all c)
    obtain ⟨K, hK⟩ : ∃ K, capsN c = K := ⟨_, rfl⟩
    rw [hK] at hcn
    have HKK := Lib.hid hK
    have HCN := Lib.hid hcn
    have HN := Lib.hid hn
    have HBo := HB
    have c1 := HB.out.cell 1 _ rfl
    have hcap2 := hC.out.rs.tb.cap
    clear hK hR hn hcn HB0 HC0
    go_wp2_with fail
    clear c1
    go_loopw [5, 16] (fun s i wr => ∃ (k : Nat) (n : Int), i = .int .i64 k ∧ k ≤ c.routes.length ∧ s = .int .i64 n ∧ Hid (mostK c k = n) ∧ 0 ≤ n ∧ n ≤ 9 ∧ Hid (Chg [] W2 wr)) (fun _ i _ => c.routes.length - (intOf i).toNat)
    case atStart => exact ⟨0, 0, rfl, by omega, rfl, Lib.hid rfl, by omega, by omega, Lib.hid (Chg.refl _ _)⟩
    case round =>
      obtain ⟨k2, n, rfl, hk2, rfl, HM, n0, n1, HCk⟩ := hrel
      have HCr := Lib.hid (HC.out.trans HCk.out (by simp))
      by_cases hlt2 : k2 < c.routes.length
      · obtain ⟨r, hr⟩ : ∃ r, c.routes[k2]? = some r := ⟨_, List.getElem?_eq_getElem hlt2⟩
        obtain ⟨p, hp⟩ : ∃ p, ps[k2]? = some p := ⟨_, List.getElem?_eq_getElem (by rw [hC.out.rs.len]; exact hlt2)⟩
        have hrow : ((c.routes.zip ps).map (fun x => rtRow x.1 x.2.1 x.2.2))[k2]? = some (rtRow r p.1 p.2) := by
          rw [List.getElem?_map, (List.getElem?_zip_eq_some (z := (r, p))).2 ⟨hr, hp⟩]
          rfl
        have HRA := Lib.hid (hC.out.rs.each k2 r p hr hp)
        obtain ⟨p1, p2⟩ := p
        dsimp only at HRA hrow
        obtain ⟨Am, cm, rfl⟩ := HRA.out.ms.form
        obtain ⟨Ah, ch, rfl⟩ := HRA.out.hs.form
        generalize hlm : (strRows r.m.methods).length = lm at *
        generalize hlh : (intRows r.hosts).length = lh at *
        clear hlm hlh
        obtain ⟨A3, cap3, e3, -, h3⟩ := hC.out.rs.tb
        injection e3 with e31 e32 e33
        subst e31
        obtain ⟨br, or, rfl, hbr, hx⟩ := h3 (by rw [HL2.out]; omega)
        have HLDr := Lib.hid (load_row 42 _ (rtRow r (.slice Am lm cm) (.slice Ah lh ch)) Tryz.underlying42 rfl (by kernel_rfl) (fun j x hj => HCr.out.cell (hx k2 _ hrow j x hj) (by simp)))
        have HST := Lib.hid (run_storeVar_new (P := Tryz.prog) wr 42 zeroRt (rtRow r (.slice Am lm cm) (.slice Ah lh ch)).toArray (by kernel_rfl) rfl (by simp [Value.oneCell', rtRow]))
        have hsu := mostK_succ hr
        rw [HM.out] at hsu
        have HSU := Lib.hid hsu
        have htr := HTR.out r (List.mem_of_getElem? hr)
        have hw1 : IntKind.i64.wrap (r.retries + r.hedges) = r.retries + r.hedges := wrap_in (by omega) (by omega)
        have hw2 : IntKind.i64.wrap (r.retries + r.hedges + 1) = r.retries + r.hedges + 1 := wrap_in (by omega) (by omega)
        clear hx hrow hr hp h3 e32 e33 hbr hsu
        go_upto_region 8 with (first | refine wpList_load_row rfl 42 _ rfl ⟨br, or + k2 * 21, none⟩ _ rfl HLDr.out ?_ | refine wpList_store_row rfl 42 _ _ rfl ⟨wr.heap.size, 0, none⟩ _ _ rfl rfl HST.out ?_)
        have HBL := Lib.hid (Blk.new wr (rtRow r (.slice Am lm cm) (.slice Ah lh ch)) 42)
        have HCz := Lib.hid (HCk.out.alloc (.cells (rtRow r (.slice Am lm cm) (.slice Ah lh ch)).toArray 42))
        generalize wr.alloc (.cells (rtRow r (.slice Am lm cm) (.slice Ah lh ch)).toArray 42) = Wz at HBL HCz ⊢
        generalize wr.heap.size = p at HBL ⊢
        have q16 := HBL.out.cell 16 _ rfl
        have q17 := HBL.out.cell 17 _ rfl
        clear HLDr HST HBL
        go_wp2_with fail
        go_roundw
        case rel => exact ⟨k2 + 1, max n (r.retries + r.hedges + 1), by go_num, by omega, by first | rfl | go_num, HSU, by omega, by omega, HCz⟩
        case measure => simp [intOf]; omega
      · obtain rfl : k2 = c.routes.length := by omega
        have HMM := Lib.hid (show mostN c = n from by rw [← HM.out, HMA.out])
        have HC := HCr
        have HB := Lib.hid (HBo.out.chg HCk.out (by simp))
        have HT := Lib.hid (HT0.out.chg HCk.out)
        have hn := HN.out
        have hcn := HCN.out
        have hm1 := mul_bd (a := n) (b := c.clients) (m := 9) (n := 256) (by omega) (by omega) (by omega) (by omega)
        have hw1 : IntKind.i64.wrap (4 * c.clients) = 4 * c.clients := wrap_in (by omega) (by omega)
        have hw2 : IntKind.i64.wrap (3 * K) = 3 * K := wrap_in (by omega) (by omega)
        have hw3 : IntKind.i64.wrap (4 * c.clients + 3 * K) = 4 * c.clients + 3 * K := wrap_in (by omega) (by omega)
        have hw4 : IntKind.i64.wrap (3 * (c.hosts.length : Int)) = 3 * (c.hosts.length : Int) := wrap_in (by omega) (by omega)
        have hw5 : IntKind.i64.wrap (4 * c.clients + 3 * K + 3 * (c.hosts.length : Int)) = 4 * c.clients + 3 * K + 3 * (c.hosts.length : Int) := wrap_in (by omega) (by omega)
        have hw6 : IntKind.i64.wrap (n * c.clients) = n * c.clients := wrap_in (by omega) (by omega)
        have hw7 : IntKind.i64.wrap (4 * c.clients + 3 * K + 3 * (c.hosts.length : Int) + n * c.clients) = 4 * c.clients + 3 * K + 3 * (c.hosts.length : Int) + n * c.clients := wrap_in (by omega) (by omega)
        clear hn hcn hm1 HCr
        go_wp2_with fail
        refine wp_region_held_drew (S := fun W => Hid (Blk W b (cfRow c (.slice A c.hosts.length cap) (.slice A2 c.routes.length cap2)) 36)) (by kernel_rfl) (Lib.hid (HB.out.chg (Chg.refl [] _).drew (by simp))) (fun hHeld => ?_)
        refine wpAnyH_take (i := 0) (oi := ?oi0) (v := (.pointer (some ⟨b, 17, none⟩))) ?hi0 (by kernel_rfl) (by kernel_rfl) (by kernel_rfl) ?hQ0 ?hy0 hHeld ?rest0
        case hi0 =>
          simp only [List.getElem?_toArray, List.getElem?_cons_zero]
          rfl
        case hQ0 => exact fun _ _ _ h => h
        case hy0 =>
          refine Or.inl ⟨by rfl, ?_⟩
          intro w hSw
          go_simp
        try simp only [Act.put, List.setIfInBounds_toArray, List.set_cons_zero, List.set_cons_succ]
        refine wpAnyH_take (i := 1) (oi := ?oi1) (v := (.int .i64 c.clients)) ?hi1 (by kernel_rfl) (by kernel_rfl) (by kernel_rfl) ?hQ1 ?hy1 hHeld ?rest1
        case hi1 =>
          simp only [List.getElem?_toArray, List.getElem?_cons_succ, List.getElem?_cons_zero]
          rfl
        case hQ1 => exact fun _ _ _ h => h
        case hy1 =>
          refine Or.inl ⟨by rfl, ?_⟩
          intro w hSw
          have hcc := hSw.out.cell 17 _ rfl
          go_simp
        try simp only [Act.put, List.setIfInBounds_toArray, List.set_cons_zero, List.set_cons_succ]
        refine wpAnyH_take (i := 2) (oi := ?oi2) (v := (.int .i64 (4 * c.clients))) ?hi2 (by kernel_rfl) (by kernel_rfl) (by kernel_rfl) ?hQ2 ?hy2 hHeld ?rest2
        case hi2 =>
          simp only [List.getElem?_toArray, List.getElem?_cons_succ, List.getElem?_cons_zero]
          rfl
        case hQ2 => exact fun _ _ _ h => h
        case hy2 =>
          refine Or.inl ⟨by rfl, ?_⟩
          intro w hSw
          go_simp
        try simp only [Act.put, List.setIfInBounds_toArray, List.set_cons_zero, List.set_cons_succ]
        refine wpAnyH_take (i := 3) (oi := ?oi3) (v := .agg (cfRow c (.slice A c.hosts.length cap) (.slice A2 c.routes.length cap2)).toArray) ?hi3 (by kernel_rfl) (by kernel_rfl) (by kernel_rfl) ?hQ3 ?hy3 hHeld ?rest3
        case hi3 =>
          simp only [List.getElem?_toArray, List.getElem?_cons_succ, List.getElem?_cons_zero]
          rfl
        case hQ3 => exact fun _ _ _ h => h
        case hy3 =>
          exact yields_row (by rfl) 36 _ rfl ⟨b, 0, none⟩ _ rfl (fun w hSw => load_row 36 _ (cfRow c (.slice A c.hosts.length cap) (.slice A2 c.routes.length cap2)) Tryz.underlying36 rfl (by kernel_rfl) (fun j x hj => by rw [Nat.zero_add]; exact hSw.out.cell j x hj))
        try simp only [Act.put, List.setIfInBounds_toArray, List.set_cons_zero, List.set_cons_succ]
        refine wpAnyH_take (i := 7) (oi := ?oi7) (v := (.pointer (some ⟨b, 0, none⟩))) ?hi7 (by kernel_rfl) (by kernel_rfl) (by kernel_rfl) ?hQ7 ?hy7 hHeld ?rest7
        case hi7 =>
          simp only [List.getElem?_toArray, List.getElem?_cons_succ, List.getElem?_cons_zero]
          rfl
        case hQ7 => exact fun _ _ _ h => h
        case hy7 =>
          refine Or.inl ⟨by rfl, ?_⟩
          intro w hSw
          go_simp
        try simp only [Act.put, List.setIfInBounds_toArray, List.set_cons_zero, List.set_cons_succ]
        refine wpAnyH_take (i := 8) (oi := ?oi8) (v := (.slice A c.hosts.length cap)) ?hi8 (by kernel_rfl) (by kernel_rfl) (by kernel_rfl) ?hQ8 ?hy8 hHeld ?rest8
        case hi8 =>
          simp only [List.getElem?_toArray, List.getElem?_cons_succ, List.getElem?_cons_zero]
          rfl
        case hQ8 => exact fun _ _ _ h => h
        case hy8 =>
          refine Or.inl ⟨by rfl, ?_⟩
          intro w hSw
          have hcc := hSw.out.cell 0 _ rfl
          go_simp
        try simp only [Act.put, List.setIfInBounds_toArray, List.set_cons_zero, List.set_cons_succ]
        refine wpAnyH_take (i := 9) (oi := ?oi9) (v := (.int .i64 (c.hosts.length : Int))) ?hi9 (by kernel_rfl) (by kernel_rfl) (by kernel_rfl) ?hQ9 ?hy9 hHeld ?rest9
        case hi9 =>
          simp only [List.getElem?_toArray, List.getElem?_cons_succ, List.getElem?_cons_zero]
          rfl
        case hQ9 => exact fun _ _ _ h => h
        case hy9 =>
          refine Or.inl ⟨by rfl, ?_⟩
          intro w hSw
          go_simp
        try simp only [Act.put, List.setIfInBounds_toArray, List.set_cons_zero, List.set_cons_succ]
        refine wpAnyH_take (i := 10) (oi := ?oi10) (v := (.int .i64 (3 * (c.hosts.length : Int)))) ?hi10 (by kernel_rfl) (by kernel_rfl) (by kernel_rfl) ?hQ10 ?hy10 hHeld ?rest10
        case hi10 =>
          simp only [List.getElem?_toArray, List.getElem?_cons_succ, List.getElem?_cons_zero]
          rfl
        case hQ10 => exact fun _ _ _ h => h
        case hy10 =>
          refine Or.inl ⟨by rfl, ?_⟩
          intro w hSw
          go_simp
        try simp only [Act.put, List.setIfInBounds_toArray, List.set_cons_zero, List.set_cons_succ]
        refine wpAnyH_take (i := 12) (oi := ?oi12) (v := (.int .i64 n)) ?hi12 (by kernel_rfl) (by kernel_rfl) (by kernel_rfl) ?hQ12 ?hy12 hHeld ?rest12
        case hi12 =>
          simp only [List.getElem?_toArray, List.getElem?_cons_succ, List.getElem?_cons_zero]
          rfl
        case hQ12 => exact fun _ _ _ h => h
        case hy12 =>
          refine Or.inl ⟨by rfl, ?_⟩
          intro w hSw
          go_simp
        try simp only [Act.put, List.setIfInBounds_toArray, List.set_cons_zero, List.set_cons_succ]
        refine wpAnyH_take (i := 13) (oi := ?oi13) (v := (.pointer (some ⟨b, 17, none⟩))) ?hi13 (by kernel_rfl) (by kernel_rfl) (by kernel_rfl) ?hQ13 ?hy13 hHeld ?rest13
        case hi13 =>
          simp only [List.getElem?_toArray, List.getElem?_cons_succ, List.getElem?_cons_zero]
          rfl
        case hQ13 => exact fun _ _ _ h => h
        case hy13 =>
          refine Or.inl ⟨by rfl, ?_⟩
          intro w hSw
          go_simp
        try simp only [Act.put, List.setIfInBounds_toArray, List.set_cons_zero, List.set_cons_succ]
        refine wpAnyH_take (i := 14) (oi := ?oi14) (v := (.int .i64 c.clients)) ?hi14 (by kernel_rfl) (by kernel_rfl) (by kernel_rfl) ?hQ14 ?hy14 hHeld ?rest14
        case hi14 =>
          simp only [List.getElem?_toArray, List.getElem?_cons_succ, List.getElem?_cons_zero]
          rfl
        case hQ14 => exact fun _ _ _ h => h
        case hy14 =>
          refine Or.inl ⟨by rfl, ?_⟩
          intro w hSw
          have hcc := hSw.out.cell 17 _ rfl
          go_simp
        try simp only [Act.put, List.setIfInBounds_toArray, List.set_cons_zero, List.set_cons_succ]
        refine wpAnyH_take (i := 15) (oi := ?oi15) (v := (.int .i64 (n * c.clients))) ?hi15 (by kernel_rfl) (by kernel_rfl) (by kernel_rfl) ?hQ15 ?hy15 hHeld ?rest15
        case hi15 =>
          simp only [List.getElem?_toArray, List.getElem?_cons_succ, List.getElem?_cons_zero]
          rfl
        case hQ15 => exact fun _ _ _ h => h
        case hy15 =>
          refine Or.inl ⟨by rfl, ?_⟩
          intro w hSw
          go_simp
        try simp only [Act.put, List.setIfInBounds_toArray, List.set_cons_zero, List.set_cons_succ]
        refine wpAnyH_ready (rs := [4]) (by kernel_rfl) (by simp) ?_
        refine AllReadyH.cons rfl (fun K hK => ?_) AllReadyH.nil
        go_simp
        refine (caps_any c (.slice A c.hosts.length cap) (.slice A2 c.routes.length cap2) _ (Lib.hid (HT.out.chg (Chg.refl [] _).drew))).mono ?_
        rintro e w3 ⟨rfl, H3⟩
        have HCD := Lib.hid (HC.out.drew.trans H3.out (by simp))
        have HBD := Lib.hid ((HB.out.chg (Chg.refl [] _).drew (by simp)).chg H3.out (by simp))
        rw [HKK.out]
        go_wp2_with fail
        refine hK.out _ _ HBD (fun hHeld => ?_)
        clear hK K
        try simp only [Act.put, List.setIfInBounds_toArray, List.set_cons_zero, List.set_cons_succ]
        refine wpAnyH_take (i := 5) (oi := ?oi5) (v := (.int .i64 (3 * K))) ?hi5 (by kernel_rfl) (by kernel_rfl) (by kernel_rfl) ?hQ5 ?hy5 hHeld ?rest5
        case hi5 =>
          simp only [List.getElem?_toArray, List.getElem?_cons_succ, List.getElem?_cons_zero]
          rfl
        case hQ5 => exact fun _ _ _ h => h
        case hy5 =>
          refine Or.inl ⟨by rfl, ?_⟩
          intro w hSw
          go_simp
        try simp only [Act.put, List.setIfInBounds_toArray, List.set_cons_zero, List.set_cons_succ]
        refine wpAnyH_take (i := 6) (oi := ?oi6) (v := (.int .i64 (4 * c.clients + 3 * K))) ?hi6 (by kernel_rfl) (by kernel_rfl) (by kernel_rfl) ?hQ6 ?hy6 hHeld ?rest6
        case hi6 =>
          simp only [List.getElem?_toArray, List.getElem?_cons_succ, List.getElem?_cons_zero]
          rfl
        case hQ6 => exact fun _ _ _ h => h
        case hy6 =>
          refine Or.inl ⟨by rfl, ?_⟩
          intro w hSw
          go_simp
        try simp only [Act.put, List.setIfInBounds_toArray, List.set_cons_zero, List.set_cons_succ]
        refine wpAnyH_take (i := 11) (oi := ?oi11) (v := (.int .i64 (4 * c.clients + 3 * K + 3 * (c.hosts.length : Int)))) ?hi11 (by kernel_rfl) (by kernel_rfl) (by kernel_rfl) ?hQ11 ?hy11 hHeld ?rest11
        case hi11 =>
          simp only [List.getElem?_toArray, List.getElem?_cons_succ, List.getElem?_cons_zero]
          rfl
        case hQ11 => exact fun _ _ _ h => h
        case hy11 =>
          refine Or.inl ⟨by rfl, ?_⟩
          intro w hSw
          go_simp
        try simp only [Act.put, List.setIfInBounds_toArray, List.set_cons_zero, List.set_cons_succ]
        refine wpAnyH_take (i := 16) (oi := ?oi16) (v := (.int .i64 (4 * c.clients + 3 * K + 3 * (c.hosts.length : Int) + n * c.clients))) ?hi16 (by kernel_rfl) (by kernel_rfl) (by kernel_rfl) ?hQ16 ?hy16 hHeld ?rest16
        case hi16 =>
          simp only [List.getElem?_toArray, List.getElem?_cons_succ, List.getElem?_cons_zero]
          rfl
        case hQ16 => exact fun _ _ _ h => h
        case hy16 =>
          refine Or.inl ⟨by rfl, ?_⟩
          intro w hSw
          go_simp
        try simp only [Act.put, List.setIfInBounds_toArray, List.set_cons_zero, List.set_cons_succ]
        refine wpAnyH_take (i := 17) (oi := ?oi17) (v := (.int .i64 (4 * c.clients + 3 * K + 3 * (c.hosts.length : Int) + n * c.clients))) ?hi17 (by kernel_rfl) (by kernel_rfl) (by kernel_rfl) ?hQ17 ?hy17 hHeld ?rest17
        case hi17 =>
          simp only [List.getElem?_toArray, List.getElem?_cons_succ, List.getElem?_cons_zero]
          rfl
        case hQ17 => exact fun _ _ _ h => h
        case hy17 =>
          refine Or.inl ⟨by rfl, ?_⟩
          intro w hSw
          go_simp
        try simp only [Act.put, List.setIfInBounds_toArray, List.set_cons_zero, List.set_cons_succ]
        refine wpAnyH_take (i := 18) (oi := ?oi18) (v := (.int .i64 0)) ?hi18 (by kernel_rfl) (by kernel_rfl) (by kernel_rfl) ?hQ18 ?hy18 hHeld ?rest18
        case hi18 =>
          simp only [List.getElem?_toArray, List.getElem?_cons_succ, List.getElem?_cons_zero]
          rfl
        case hQ18 => exact fun _ _ _ h => h
        case hy18 =>
          refine Or.inl ⟨by rfl, ?_⟩
          intro w hSw
          go_simp
        try simp only [Act.put, List.setIfInBounds_toArray, List.set_cons_zero, List.set_cons_succ]
        refine wpAnyH_done (by kernel_rfl) ?_ _
        go_wp2_with fail
        go_ret2
        refine ⟨?_, HCD.out⟩
        rw [HTN.out, HKK.out, HMM.out]
        rfl
end Go.Proofs.YtjndgkbikhndoaaGreatDoor
