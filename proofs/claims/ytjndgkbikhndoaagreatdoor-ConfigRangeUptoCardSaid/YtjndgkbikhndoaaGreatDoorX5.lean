/- Layer 13, the reference: Bounds. -/
import Derived.Test.YtjndgkbikhndoaaGreatDoorX4
import Derived.Test.YtjndgkbikhndoaaGreatDoorM7
namespace Go.Proofs.YtjndgkbikhndoaaGreatDoor
open Go.RowKit Go.ChangeShapes Go.WideShapes
set_option linter.unusedVariables false
set_option linter.unusedSimpArgs false


set_option maxHeartbeats 8000000 in
set_option maxRecDepth 100000 in
theorem rbounds_any (c : Cf) (hv rv : Value) (ps : List (Value × Value)) (w : World) (hC : Hid (CfAt w c hv rv ps)) (hz : Hid (rightB c = true)) :
    Calls Tryz.prog 22 #[.agg (cfRow c hv rv).toArray] w fun e w' => e = .returned (.tuple #[.int .i64 (connsN c), .int .i64 (timersN c), .int .i64 (bufN c)]) ∧ Hid (Chg [] w w') := by
  have hR := rgt_of hz.out
  have hn := hR.nums
  have hcn := hR.capsN
  have h16 := hR.h2
  have r16 := hR.r2
  have HTR := Lib.hid hR.tries
  have HHC := Lib.hid hR.caps
  have HTN := Lib.hid (show timersN c = 4 * c.clients + 3 * capsN c + 3 * c.hosts.length + mostN c * c.clients from rfl)
  have HBN := Lib.hid (show bufN c = c.clients * (2 * c.maxHead + c.maxBody + c.maxOut + 8192) + capsN c * (c.maxHead + c.maxBody + 8192) from rfl)
  have HCN := Lib.hid (show connsN c = c.clients + capsN c + c.hosts.length from rfl)
  have HMA := Lib.hid (mostK_all c)
  have HCA := Lib.hid (capsK_all c)
  have HBD := Lib.hid (capsK_bd c hR.caps)
  clear hR
  have hl1 : (c.hosts.map htRow).length = c.hosts.length := List.length_map _
  obtain ⟨A, cap, rfl⟩ := hC.out.hs.form
  rw [hl1] at hC ⊢
  have hl2 : ((c.routes.zip ps).map (fun x => rtRow x.1 x.2.1 x.2.2)).length = c.routes.length := by
    have := hC.out.rs.len
    rw [List.length_map, List.length_zip]
    omega
  obtain ⟨A2, cap2, rfl⟩ := hC.out.rs.tb.form
  rw [hl2] at hC ⊢
  have HL1 := Lib.hid hl1
  have HL2 := Lib.hid hl2
  have hcap := hC.out.hs.cap
  have hcap2 := hC.out.rs.tb.cap
  clear hl1 hl2
  have HB0 := Lib.hid (Blk.new w (cfRow c (.slice A c.hosts.length cap) (.slice A2 c.routes.length cap2)) 36)
  have HC0 := Lib.hid ((Chg.refl [] w).alloc (.cells (cfRow c (.slice A c.hosts.length cap) (.slice A2 c.routes.length cap2)).toArray 36))
  change Calls Tryz.prog 22 #[.agg #[.slice A c.hosts.length cap, .slice A2 c.routes.length cap2, .int .i64 c.every, .int .i64 c.timeout, .int .i64 c.up, .int .i64 c.down, .string c.path, .int .i64 c.fails, .int .i64 c.base, .int .i64 c.longest, .int .i64 c.share, .int .i64 c.maxHead, .int .i64 c.maxBody, .int .i64 c.maxOut, .int .i64 c.headTime, .int .i64 c.idle, .int .i64 c.life, .int .i64 c.clients]] w _
  go_enter Tryz.func22, Tryz.ntmps22
  go_upto_region 2 with fail
  change Hid (Blk (w.alloc (.cells #[.slice A c.hosts.length cap, .slice A2 c.routes.length cap2, .int .i64 c.every, .int .i64 c.timeout, .int .i64 c.up, .int .i64 c.down, .string c.path, .int .i64 c.fails, .int .i64 c.base, .int .i64 c.longest, .int .i64 c.share, .int .i64 c.maxHead, .int .i64 c.maxBody, .int .i64 c.maxOut, .int .i64 c.headTime, .int .i64 c.idle, .int .i64 c.life, .int .i64 c.clients] 36)) _ _ _) at HB0
  change Hid (Chg [] w (w.alloc (.cells #[.slice A c.hosts.length cap, .slice A2 c.routes.length cap2, .int .i64 c.every, .int .i64 c.timeout, .int .i64 c.up, .int .i64 c.down, .string c.path, .int .i64 c.fails, .int .i64 c.base, .int .i64 c.longest, .int .i64 c.share, .int .i64 c.maxHead, .int .i64 c.maxBody, .int .i64 c.maxOut, .int .i64 c.headTime, .int .i64 c.idle, .int .i64 c.life, .int .i64 c.clients] 36))) at HC0
  generalize w.alloc (.cells #[.slice A c.hosts.length cap, .slice A2 c.routes.length cap2, .int .i64 c.every, .int .i64 c.timeout, .int .i64 c.up, .int .i64 c.down, .string c.path, .int .i64 c.fails, .int .i64 c.base, .int .i64 c.longest, .int .i64 c.share, .int .i64 c.maxHead, .int .i64 c.maxBody, .int .i64 c.maxOut, .int .i64 c.headTime, .int .i64 c.idle, .int .i64 c.life, .int .i64 c.clients] 36) = W1 at HB0 HC0 ⊢
  generalize w.heap.size = b at HB0 ⊢
  have c0 := HB0.out.cell 0 _ rfl
  go_wp2_with fail
  clear c0
  go_loopw [5, 15] (fun s i wr => ∃ (k : Nat) (n : Int), i = .int .i64 k ∧ k ≤ c.hosts.length ∧ s = .int .i64 n ∧ Hid (capsK c k = n) ∧ 0 ≤ n ∧ n ≤ 1024 ∧ Hid (Chg [] W1 wr)) (fun _ i _ => c.hosts.length - (intOf i).toNat)
  case atStart => exact ⟨0, 0, rfl, by omega, rfl, Lib.hid rfl, by omega, by omega, Lib.hid (Chg.refl _ _)⟩
  case round =>
    obtain ⟨k, n, rfl, hk, rfl, HN, n0, n1, HCk⟩ := hrel
    by_cases hlt : k < c.hosts.length
    · obtain ⟨bh, oh, rfl, hbs, hx⟩ := hC.out.hs.at3 (by rw [HL1.out]; omega)
      obtain ⟨x, hxk⟩ : ∃ x, c.hosts[k]? = some x := ⟨_, List.getElem?_eq_getElem hlt⟩
      obtain ⟨q0, q1, q2⟩ := hx k _ _ _ (by rw [List.getElem?_map, hxk]; rfl)
      have HCa := Lib.hid (HC0.out.trans HCk.out (by simp))
      have q0 := HCa.out.cell q0 (by simp)
      have q1 := HCa.out.cell q1 (by simp)
      have q2 := HCa.out.cell q2 (by simp)
      have hbd := HBD.out (k + 1) (by omega)
      have hcx := HHC.out x (List.mem_of_getElem? hxk)
      have hs := capsK_succ hxk
      rw [HN.out] at hs
      rw [hs] at hbd
      have HS := Lib.hid hs
      clear hx hxk hs
      obtain ⟨name, cp, pd⟩ := x
      dsimp only at q0 q1 q2 hbd HS hcx
      have HC2 := Lib.hid (HCk.out.alloc (.cells #[.string name, .int .i64 cp, .int .i64 pd] 45))
      have hw : IntKind.i64.wrap (n + cp) = n + cp := wrap_in (by omega) (by omega)
      go_wp2_with fail
      go_roundw
      case rel => exact ⟨k + 1, n + cp, by go_num, by omega, by first | rfl | go_num, HS, by omega, by omega, HC2⟩
      case measure => simp [intOf]; omega
    · obtain rfl : k = c.hosts.length := by omega
      have HKK := Lib.hid (show capsN c = n from by rw [← HN.out, HCA.out])
      have HB := Lib.hid (HB0.out.chg HCk.out (by simp))
      have HC := Lib.hid (HC0.out.trans HCk.out (by simp))
      clear HB0 HC0 HN HCk hk hlt
      generalize wr = W2 at *
      have c1 := HB.out.cell 1 _ rfl
      go_wp2_with fail
      clear c1
      go_loopw [8, 27] (fun s i wr => ∃ (k : Nat) (m : Int), i = .int .i64 k ∧ k ≤ c.routes.length ∧ s = .int .i64 m ∧ Hid (mostK c k = m) ∧ 0 ≤ m ∧ m ≤ 9 ∧ Hid (Chg [] W2 wr)) (fun _ i _ => c.routes.length - (intOf i).toNat)
      case atStart => exact ⟨0, 0, rfl, by omega, rfl, Lib.hid rfl, by omega, by omega, Lib.hid (Chg.refl _ _)⟩
      case round =>
        obtain ⟨k2, m, rfl, hk2, rfl, HM, m0, m1, HCk⟩ := hrel
        have HCr := Lib.hid (HC.out.trans HCk.out (by simp))
        by_cases hlt2 : k2 < c.routes.length
        · obtain ⟨r, hr⟩ : ∃ r, c.routes[k2]? = some r := ⟨_, List.getElem?_eq_getElem hlt2⟩
          obtain ⟨p, hp⟩ : ∃ p, ps[k2]? = some p := ⟨_, List.getElem?_eq_getElem (by rw [hC.out.rs.len]; exact hlt2)⟩
          have hrow : ((c.routes.zip ps).map (fun x => rtRow x.1 x.2.1 x.2.2))[k2]? = some (rtRow r p.1 p.2) := by
            rw [List.getElem?_map, (List.getElem?_zip_eq_some (z := (r, p))).2 ⟨hr, hp⟩]
            rfl
          have HRA := Lib.hid (hC.out.rs.each k2 r p hr hp)
          obtain ⟨p1, p2⟩ := p
          dsimp only at HRA hrow
          obtain ⟨Am, cm, rfl⟩ := HRA.out.ms.form
          obtain ⟨Ah, ch, rfl⟩ := HRA.out.hs.form
          generalize hlm : (strRows r.m.methods).length = lm at *
          generalize hlh : (intRows r.hosts).length = lh at *
          clear hlm hlh
          obtain ⟨A3, cap3, e3, -, h3⟩ := hC.out.rs.tb
          injection e3 with e31 e32 e33
          subst e31
          obtain ⟨br, or, rfl, hbr, hx⟩ := h3 (by rw [HL2.out]; omega)
          have HLDr := Lib.hid (load_row 42 _ (rtRow r (.slice Am lm cm) (.slice Ah lh ch)) Tryz.underlying42 rfl (by kernel_rfl) (fun j x hj => HCr.out.cell (hx k2 _ hrow j x hj) (by simp)))
          have HST := Lib.hid (run_storeVar_new (P := Tryz.prog) wr 42 zeroRt (rtRow r (.slice Am lm cm) (.slice Ah lh ch)).toArray (by kernel_rfl) rfl (by simp [Value.oneCell', rtRow]))
          have hsu := mostK_succ hr
          rw [HM.out] at hsu
          have HSU := Lib.hid hsu
          have htr := HTR.out r (List.mem_of_getElem? hr)
          have hw1 : IntKind.i64.wrap (r.retries + r.hedges) = r.retries + r.hedges := wrap_in (by omega) (by omega)
          have hw2 : IntKind.i64.wrap (r.retries + r.hedges + 1) = r.retries + r.hedges + 1 := wrap_in (by omega) (by omega)
          clear hx hrow hr hp h3 e32 e33 hbr hsu
          go_upto_region 11 with (first | refine wpList_load_row rfl 42 _ rfl ⟨br, or + k2 * 21, none⟩ _ rfl HLDr.out ?_ | refine wpList_store_row rfl 42 _ _ rfl ⟨wr.heap.size, 0, none⟩ _ _ rfl rfl HST.out ?_)
          have HBL := Lib.hid (Blk.new wr (rtRow r (.slice Am lm cm) (.slice Ah lh ch)) 42)
          have HCz := Lib.hid (HCk.out.alloc (.cells (rtRow r (.slice Am lm cm) (.slice Ah lh ch)).toArray 42))
          generalize wr.alloc (.cells (rtRow r (.slice Am lm cm) (.slice Ah lh ch)).toArray 42) = Wz at HBL HCz ⊢
          generalize wr.heap.size = p at HBL ⊢
          have q16 := HBL.out.cell 16 _ rfl
          have q17 := HBL.out.cell 17 _ rfl
          clear HLDr HST HBL
          by_cases hgt : m < r.retries + r.hedges + 1
          · have HS2 := Lib.hid (show mostK c (k2 + 1) = r.retries + r.hedges + 1 from by rw [HSU.out]; omega)
            go_wp2_with fail
            go_roundw
            case rel => exact ⟨k2 + 1, _, by go_num, by omega, by first | rfl | go_num, HS2, by omega, by omega, HCz⟩
            case measure => simp [intOf]; omega
          · have HS2 := Lib.hid (show mostK c (k2 + 1) = m from by rw [HSU.out]; omega)
            go_wp2_with fail
            go_roundw
            case rel => exact ⟨k2 + 1, _, by go_num, by omega, by first | rfl | go_num, HS2, by omega, by omega, HCz⟩
            case measure => simp [intOf]; omega
        · obtain rfl : k2 = c.routes.length := by omega
          have HMM := Lib.hid (show mostN c = m from by rw [← HM.out, HMA.out])
          have HB2 := Lib.hid (HB.out.chg HCk.out (by simp))
          have HC2 := Lib.hid (HC.out.trans HCk.out (by simp))
          clear HB HC HM HCk hk2 hlt2
          have HB := HB2
          have HC := HC2
          clear HB2 HC2
          rw [HKK.out] at hcn
          have d0 := HB.out.cell 0 _ rfl
          have d11 := HB.out.cell 11 _ rfl
          have d12 := HB.out.cell 12 _ rfl
          have d13 := HB.out.cell 13 _ rfl
          have d17 := HB.out.cell 17 _ rfl
          have hm0 := mul_bd (a := m) (b := c.clients) (m := 9) (n := 256) m0 m1 (by omega) (by omega)
          have hm1 := mul_bd (a := c.clients) (b := (2 * c.maxHead + c.maxBody + c.maxOut + 8192)) (m := 256) (n := 3000000) (by omega) (by omega) (by omega) (by omega)
          have hm2 := mul_bd (a := n) (b := (c.maxHead + c.maxBody + 8192)) (m := 1024) (n := 3000000) (by omega) (by omega) (by omega) (by omega)
          have a1 : IntKind.i64.wrap (4 * c.clients) = 4 * c.clients := wrap_in (by omega) (by omega)
          have a2 : IntKind.i64.wrap (3 * n) = 3 * n := wrap_in (by omega) (by omega)
          have a3 : IntKind.i64.wrap (4 * c.clients + 3 * n) = 4 * c.clients + 3 * n := wrap_in (by omega) (by omega)
          have a4 : IntKind.i64.wrap (3 * (c.hosts.length : Int)) = 3 * (c.hosts.length : Int) := wrap_in (by omega) (by omega)
          have a5 : IntKind.i64.wrap (4 * c.clients + 3 * n + 3 * (c.hosts.length : Int)) = 4 * c.clients + 3 * n + 3 * (c.hosts.length : Int) := wrap_in (by omega) (by omega)
          have a6 : IntKind.i64.wrap (m * c.clients) = m * c.clients := wrap_in (by omega) (by omega)
          have a7 : IntKind.i64.wrap (4 * c.clients + 3 * n + 3 * (c.hosts.length : Int) + m * c.clients) = 4 * c.clients + 3 * n + 3 * (c.hosts.length : Int) + m * c.clients := wrap_in (by omega) (by omega)
          have a8 : IntKind.i64.wrap (c.clients + n) = c.clients + n := wrap_in (by omega) (by omega)
          have a9 : IntKind.i64.wrap (c.clients + n + (c.hosts.length : Int)) = c.clients + n + (c.hosts.length : Int) := wrap_in (by omega) (by omega)
          have w1 : IntKind.i64.wrap (2 * c.maxHead) = 2 * c.maxHead := wrap_in (by omega) (by omega)
          have w2 : IntKind.i64.wrap (2 * c.maxHead + c.maxBody) = 2 * c.maxHead + c.maxBody := wrap_in (by omega) (by omega)
          have w3 : IntKind.i64.wrap (2 * c.maxHead + c.maxBody + c.maxOut) = 2 * c.maxHead + c.maxBody + c.maxOut := wrap_in (by omega) (by omega)
          have w4 : IntKind.i64.wrap (2 * c.maxHead + c.maxBody + c.maxOut + 8192) = (2 * c.maxHead + c.maxBody + c.maxOut + 8192) := wrap_in (by omega) (by omega)
          have w5 : IntKind.i64.wrap (c.clients * (2 * c.maxHead + c.maxBody + c.maxOut + 8192)) = c.clients * (2 * c.maxHead + c.maxBody + c.maxOut + 8192) := wrap_in (by omega) (by omega)
          have w6 : IntKind.i64.wrap (c.maxHead + c.maxBody) = c.maxHead + c.maxBody := wrap_in (by omega) (by omega)
          have w7 : IntKind.i64.wrap (c.maxHead + c.maxBody + 8192) = (c.maxHead + c.maxBody + 8192) := wrap_in (by omega) (by omega)
          have w8 : IntKind.i64.wrap (n * (c.maxHead + c.maxBody + 8192)) = n * (c.maxHead + c.maxBody + 8192) := wrap_in (by omega) (by omega)
          have w9 : IntKind.i64.wrap (c.clients * (2 * c.maxHead + c.maxBody + c.maxOut + 8192) + n * (c.maxHead + c.maxBody + 8192)) = c.clients * (2 * c.maxHead + c.maxBody + c.maxOut + 8192) + n * (c.maxHead + c.maxBody + 8192) := wrap_in (by omega) (by omega)
          clear hm0 hm1 hm2 hn hcn
          go_wp2_with fail
          refine wp_region_held_drew (S := fun W => Hid (Blk W b (cfRow c (.slice A c.hosts.length cap) (.slice A2 c.routes.length cap2)) 36)) (by kernel_rfl) (Lib.hid (HB.out.chg (Chg.refl [] _).drew (by simp))) (fun hHeld => ?_)
          refine wpAnyH_take (i := 0) (oi := ?oi0) (v := (.pointer (some ⟨b, 17, none⟩))) ?hi0 (by kernel_rfl) (by kernel_rfl) (by kernel_rfl) ?hQ0 ?hy0 hHeld ?rest0
          case hi0 =>
            simp only [List.getElem?_toArray, List.getElem?_cons_zero]
            rfl
          case hQ0 => exact fun _ _ _ h => h
          case hy0 =>
            refine Or.inl ⟨by rfl, ?_⟩
            intro w hSw
            go_simp
          try simp only [Act.put, List.setIfInBounds_toArray, List.set_cons_zero, List.set_cons_succ]
          refine wpAnyH_take (i := 1) (oi := ?oi1) (v := (.int .i64 c.clients)) ?hi1 (by kernel_rfl) (by kernel_rfl) (by kernel_rfl) ?hQ1 ?hy1 hHeld ?rest1
          case hi1 =>
            simp only [List.getElem?_toArray, List.getElem?_cons_succ, List.getElem?_cons_zero]
            rfl
          case hQ1 => exact fun _ _ _ h => h
          case hy1 =>
            refine Or.inl ⟨by rfl, ?_⟩
            intro w hSw
            have hcc := hSw.out.cell 17 _ rfl
            go_simp
          try simp only [Act.put, List.setIfInBounds_toArray, List.set_cons_zero, List.set_cons_succ]
          refine wpAnyH_take (i := 2) (oi := ?oi2) (v := (.int .i64 (n))) ?hi2 (by kernel_rfl) (by kernel_rfl) (by kernel_rfl) ?hQ2 ?hy2 hHeld ?rest2
          case hi2 =>
            simp only [List.getElem?_toArray, List.getElem?_cons_succ, List.getElem?_cons_zero]
            rfl
          case hQ2 => exact fun _ _ _ h => h
          case hy2 =>
            refine Or.inl ⟨by rfl, ?_⟩
            intro w hSw
            go_simp
          try simp only [Act.put, List.setIfInBounds_toArray, List.set_cons_zero, List.set_cons_succ]
          refine wpAnyH_take (i := 3) (oi := ?oi3) (v := (.int .i64 (c.clients + n))) ?hi3 (by kernel_rfl) (by kernel_rfl) (by kernel_rfl) ?hQ3 ?hy3 hHeld ?rest3
          case hi3 =>
            simp only [List.getElem?_toArray, List.getElem?_cons_succ, List.getElem?_cons_zero]
            rfl
          case hQ3 => exact fun _ _ _ h => h
          case hy3 =>
            refine Or.inl ⟨by rfl, ?_⟩
            intro w hSw
            go_simp
          try simp only [Act.put, List.setIfInBounds_toArray, List.set_cons_zero, List.set_cons_succ]
          refine wpAnyH_take (i := 4) (oi := ?oi4) (v := (.pointer (some ⟨b, 0, none⟩))) ?hi4 (by kernel_rfl) (by kernel_rfl) (by kernel_rfl) ?hQ4 ?hy4 hHeld ?rest4
          case hi4 =>
            simp only [List.getElem?_toArray, List.getElem?_cons_succ, List.getElem?_cons_zero]
            rfl
          case hQ4 => exact fun _ _ _ h => h
          case hy4 =>
            refine Or.inl ⟨by rfl, ?_⟩
            intro w hSw
            go_simp
          try simp only [Act.put, List.setIfInBounds_toArray, List.set_cons_zero, List.set_cons_succ]
          refine wpAnyH_take (i := 5) (oi := ?oi5) (v := (.slice A c.hosts.length cap)) ?hi5 (by kernel_rfl) (by kernel_rfl) (by kernel_rfl) ?hQ5 ?hy5 hHeld ?rest5
          case hi5 =>
            simp only [List.getElem?_toArray, List.getElem?_cons_succ, List.getElem?_cons_zero]
            rfl
          case hQ5 => exact fun _ _ _ h => h
          case hy5 =>
            refine Or.inl ⟨by rfl, ?_⟩
            intro w hSw
            have hcc := hSw.out.cell 0 _ rfl
            go_simp
          try simp only [Act.put, List.setIfInBounds_toArray, List.set_cons_zero, List.set_cons_succ]
          refine wpAnyH_take (i := 6) (oi := ?oi6) (v := (.int .i64 ((c.hosts.length : Int)))) ?hi6 (by kernel_rfl) (by kernel_rfl) (by kernel_rfl) ?hQ6 ?hy6 hHeld ?rest6
          case hi6 =>
            simp only [List.getElem?_toArray, List.getElem?_cons_succ, List.getElem?_cons_zero]
            rfl
          case hQ6 => exact fun _ _ _ h => h
          case hy6 =>
            refine Or.inl ⟨by rfl, ?_⟩
            intro w hSw
            go_simp
          try simp only [Act.put, List.setIfInBounds_toArray, List.set_cons_zero, List.set_cons_succ]
          refine wpAnyH_take (i := 7) (oi := ?oi7) (v := (.int .i64 (c.clients + n + (c.hosts.length : Int)))) ?hi7 (by kernel_rfl) (by kernel_rfl) (by kernel_rfl) ?hQ7 ?hy7 hHeld ?rest7
          case hi7 =>
            simp only [List.getElem?_toArray, List.getElem?_cons_succ, List.getElem?_cons_zero]
            rfl
          case hQ7 => exact fun _ _ _ h => h
          case hy7 =>
            refine Or.inl ⟨by rfl, ?_⟩
            intro w hSw
            go_simp
          try simp only [Act.put, List.setIfInBounds_toArray, List.set_cons_zero, List.set_cons_succ]
          refine wpAnyH_take (i := 8) (oi := ?oi8) (v := (.int .i64 (4 * c.clients + 3 * n + 3 * (c.hosts.length : Int) + m * c.clients))) ?hi8 (by kernel_rfl) (by kernel_rfl) (by kernel_rfl) ?hQ8 ?hy8 hHeld ?rest8
          case hi8 =>
            simp only [List.getElem?_toArray, List.getElem?_cons_succ, List.getElem?_cons_zero]
            rfl
          case hQ8 => exact fun _ _ _ h => h
          case hy8 =>
            refine Or.inl ⟨by rfl, ?_⟩
            intro w hSw
            go_simp
          try simp only [Act.put, List.setIfInBounds_toArray, List.set_cons_zero, List.set_cons_succ]
          refine wpAnyH_take (i := 9) (oi := ?oi9) (v := (.pointer (some ⟨b, 17, none⟩))) ?hi9 (by kernel_rfl) (by kernel_rfl) (by kernel_rfl) ?hQ9 ?hy9 hHeld ?rest9
          case hi9 =>
            simp only [List.getElem?_toArray, List.getElem?_cons_succ, List.getElem?_cons_zero]
            rfl
          case hQ9 => exact fun _ _ _ h => h
          case hy9 =>
            refine Or.inl ⟨by rfl, ?_⟩
            intro w hSw
            go_simp
          try simp only [Act.put, List.setIfInBounds_toArray, List.set_cons_zero, List.set_cons_succ]
          refine wpAnyH_take (i := 10) (oi := ?oi10) (v := (.int .i64 c.clients)) ?hi10 (by kernel_rfl) (by kernel_rfl) (by kernel_rfl) ?hQ10 ?hy10 hHeld ?rest10
          case hi10 =>
            simp only [List.getElem?_toArray, List.getElem?_cons_succ, List.getElem?_cons_zero]
            rfl
          case hQ10 => exact fun _ _ _ h => h
          case hy10 =>
            refine Or.inl ⟨by rfl, ?_⟩
            intro w hSw
            have hcc := hSw.out.cell 17 _ rfl
            go_simp
          try simp only [Act.put, List.setIfInBounds_toArray, List.set_cons_zero, List.set_cons_succ]
          refine wpAnyH_take (i := 11) (oi := ?oi11) (v := (.pointer (some ⟨b, 11, none⟩))) ?hi11 (by kernel_rfl) (by kernel_rfl) (by kernel_rfl) ?hQ11 ?hy11 hHeld ?rest11
          case hi11 =>
            simp only [List.getElem?_toArray, List.getElem?_cons_succ, List.getElem?_cons_zero]
            rfl
          case hQ11 => exact fun _ _ _ h => h
          case hy11 =>
            refine Or.inl ⟨by rfl, ?_⟩
            intro w hSw
            go_simp
          try simp only [Act.put, List.setIfInBounds_toArray, List.set_cons_zero, List.set_cons_succ]
          refine wpAnyH_take (i := 12) (oi := ?oi12) (v := (.int .i64 c.maxHead)) ?hi12 (by kernel_rfl) (by kernel_rfl) (by kernel_rfl) ?hQ12 ?hy12 hHeld ?rest12
          case hi12 =>
            simp only [List.getElem?_toArray, List.getElem?_cons_succ, List.getElem?_cons_zero]
            rfl
          case hQ12 => exact fun _ _ _ h => h
          case hy12 =>
            refine Or.inl ⟨by rfl, ?_⟩
            intro w hSw
            have hcc := hSw.out.cell 11 _ rfl
            go_simp
          try simp only [Act.put, List.setIfInBounds_toArray, List.set_cons_zero, List.set_cons_succ]
          refine wpAnyH_take (i := 13) (oi := ?oi13) (v := (.int .i64 (2 * c.maxHead))) ?hi13 (by kernel_rfl) (by kernel_rfl) (by kernel_rfl) ?hQ13 ?hy13 hHeld ?rest13
          case hi13 =>
            simp only [List.getElem?_toArray, List.getElem?_cons_succ, List.getElem?_cons_zero]
            rfl
          case hQ13 => exact fun _ _ _ h => h
          case hy13 =>
            refine Or.inl ⟨by rfl, ?_⟩
            intro w hSw
            go_simp
          try simp only [Act.put, List.setIfInBounds_toArray, List.set_cons_zero, List.set_cons_succ]
          refine wpAnyH_take (i := 14) (oi := ?oi14) (v := (.pointer (some ⟨b, 12, none⟩))) ?hi14 (by kernel_rfl) (by kernel_rfl) (by kernel_rfl) ?hQ14 ?hy14 hHeld ?rest14
          case hi14 =>
            simp only [List.getElem?_toArray, List.getElem?_cons_succ, List.getElem?_cons_zero]
            rfl
          case hQ14 => exact fun _ _ _ h => h
          case hy14 =>
            refine Or.inl ⟨by rfl, ?_⟩
            intro w hSw
            go_simp
          try simp only [Act.put, List.setIfInBounds_toArray, List.set_cons_zero, List.set_cons_succ]
          refine wpAnyH_take (i := 15) (oi := ?oi15) (v := (.int .i64 c.maxBody)) ?hi15 (by kernel_rfl) (by kernel_rfl) (by kernel_rfl) ?hQ15 ?hy15 hHeld ?rest15
          case hi15 =>
            simp only [List.getElem?_toArray, List.getElem?_cons_succ, List.getElem?_cons_zero]
            rfl
          case hQ15 => exact fun _ _ _ h => h
          case hy15 =>
            refine Or.inl ⟨by rfl, ?_⟩
            intro w hSw
            have hcc := hSw.out.cell 12 _ rfl
            go_simp
          try simp only [Act.put, List.setIfInBounds_toArray, List.set_cons_zero, List.set_cons_succ]
          refine wpAnyH_take (i := 16) (oi := ?oi16) (v := (.int .i64 (2 * c.maxHead + c.maxBody))) ?hi16 (by kernel_rfl) (by kernel_rfl) (by kernel_rfl) ?hQ16 ?hy16 hHeld ?rest16
          case hi16 =>
            simp only [List.getElem?_toArray, List.getElem?_cons_succ, List.getElem?_cons_zero]
            rfl
          case hQ16 => exact fun _ _ _ h => h
          case hy16 =>
            refine Or.inl ⟨by rfl, ?_⟩
            intro w hSw
            go_simp
          try simp only [Act.put, List.setIfInBounds_toArray, List.set_cons_zero, List.set_cons_succ]
          refine wpAnyH_take (i := 17) (oi := ?oi17) (v := (.pointer (some ⟨b, 13, none⟩))) ?hi17 (by kernel_rfl) (by kernel_rfl) (by kernel_rfl) ?hQ17 ?hy17 hHeld ?rest17
          case hi17 =>
            simp only [List.getElem?_toArray, List.getElem?_cons_succ, List.getElem?_cons_zero]
            rfl
          case hQ17 => exact fun _ _ _ h => h
          case hy17 =>
            refine Or.inl ⟨by rfl, ?_⟩
            intro w hSw
            go_simp
          try simp only [Act.put, List.setIfInBounds_toArray, List.set_cons_zero, List.set_cons_succ]
          refine wpAnyH_take (i := 18) (oi := ?oi18) (v := (.int .i64 c.maxOut)) ?hi18 (by kernel_rfl) (by kernel_rfl) (by kernel_rfl) ?hQ18 ?hy18 hHeld ?rest18
          case hi18 =>
            simp only [List.getElem?_toArray, List.getElem?_cons_succ, List.getElem?_cons_zero]
            rfl
          case hQ18 => exact fun _ _ _ h => h
          case hy18 =>
            refine Or.inl ⟨by rfl, ?_⟩
            intro w hSw
            have hcc := hSw.out.cell 13 _ rfl
            go_simp
          try simp only [Act.put, List.setIfInBounds_toArray, List.set_cons_zero, List.set_cons_succ]
          refine wpAnyH_take (i := 19) (oi := ?oi19) (v := (.int .i64 (2 * c.maxHead + c.maxBody + c.maxOut))) ?hi19 (by kernel_rfl) (by kernel_rfl) (by kernel_rfl) ?hQ19 ?hy19 hHeld ?rest19
          case hi19 =>
            simp only [List.getElem?_toArray, List.getElem?_cons_succ, List.getElem?_cons_zero]
            rfl
          case hQ19 => exact fun _ _ _ h => h
          case hy19 =>
            refine Or.inl ⟨by rfl, ?_⟩
            intro w hSw
            go_simp
          try simp only [Act.put, List.setIfInBounds_toArray, List.set_cons_zero, List.set_cons_succ]
          refine wpAnyH_take (i := 20) (oi := ?oi20) (v := (.int .i64 (2 * c.maxHead + c.maxBody + c.maxOut + 8192))) ?hi20 (by kernel_rfl) (by kernel_rfl) (by kernel_rfl) ?hQ20 ?hy20 hHeld ?rest20
          case hi20 =>
            simp only [List.getElem?_toArray, List.getElem?_cons_succ, List.getElem?_cons_zero]
            rfl
          case hQ20 => exact fun _ _ _ h => h
          case hy20 =>
            refine Or.inl ⟨by rfl, ?_⟩
            intro w hSw
            go_simp
          try simp only [Act.put, List.setIfInBounds_toArray, List.set_cons_zero, List.set_cons_succ]
          refine wpAnyH_take (i := 21) (oi := ?oi21) (v := (.int .i64 (c.clients * (2 * c.maxHead + c.maxBody + c.maxOut + 8192)))) ?hi21 (by kernel_rfl) (by kernel_rfl) (by kernel_rfl) ?hQ21 ?hy21 hHeld ?rest21
          case hi21 =>
            simp only [List.getElem?_toArray, List.getElem?_cons_succ, List.getElem?_cons_zero]
            rfl
          case hQ21 => exact fun _ _ _ h => h
          case hy21 =>
            refine Or.inl ⟨by rfl, ?_⟩
            intro w hSw
            go_simp
          try simp only [Act.put, List.setIfInBounds_toArray, List.set_cons_zero, List.set_cons_succ]
          refine wpAnyH_take (i := 22) (oi := ?oi22) (v := (.int .i64 (n))) ?hi22 (by kernel_rfl) (by kernel_rfl) (by kernel_rfl) ?hQ22 ?hy22 hHeld ?rest22
          case hi22 =>
            simp only [List.getElem?_toArray, List.getElem?_cons_succ, List.getElem?_cons_zero]
            rfl
          case hQ22 => exact fun _ _ _ h => h
          case hy22 =>
            refine Or.inl ⟨by rfl, ?_⟩
            intro w hSw
            go_simp
          try simp only [Act.put, List.setIfInBounds_toArray, List.set_cons_zero, List.set_cons_succ]
          refine wpAnyH_take (i := 23) (oi := ?oi23) (v := (.pointer (some ⟨b, 11, none⟩))) ?hi23 (by kernel_rfl) (by kernel_rfl) (by kernel_rfl) ?hQ23 ?hy23 hHeld ?rest23
          case hi23 =>
            simp only [List.getElem?_toArray, List.getElem?_cons_succ, List.getElem?_cons_zero]
            rfl
          case hQ23 => exact fun _ _ _ h => h
          case hy23 =>
            refine Or.inl ⟨by rfl, ?_⟩
            intro w hSw
            go_simp
          try simp only [Act.put, List.setIfInBounds_toArray, List.set_cons_zero, List.set_cons_succ]
          refine wpAnyH_take (i := 24) (oi := ?oi24) (v := (.int .i64 c.maxHead)) ?hi24 (by kernel_rfl) (by kernel_rfl) (by kernel_rfl) ?hQ24 ?hy24 hHeld ?rest24
          case hi24 =>
            simp only [List.getElem?_toArray, List.getElem?_cons_succ, List.getElem?_cons_zero]
            rfl
          case hQ24 => exact fun _ _ _ h => h
          case hy24 =>
            refine Or.inl ⟨by rfl, ?_⟩
            intro w hSw
            have hcc := hSw.out.cell 11 _ rfl
            go_simp
          try simp only [Act.put, List.setIfInBounds_toArray, List.set_cons_zero, List.set_cons_succ]
          refine wpAnyH_take (i := 25) (oi := ?oi25) (v := (.pointer (some ⟨b, 12, none⟩))) ?hi25 (by kernel_rfl) (by kernel_rfl) (by kernel_rfl) ?hQ25 ?hy25 hHeld ?rest25
          case hi25 =>
            simp only [List.getElem?_toArray, List.getElem?_cons_succ, List.getElem?_cons_zero]
            rfl
          case hQ25 => exact fun _ _ _ h => h
          case hy25 =>
            refine Or.inl ⟨by rfl, ?_⟩
            intro w hSw
            go_simp
          try simp only [Act.put, List.setIfInBounds_toArray, List.set_cons_zero, List.set_cons_succ]
          refine wpAnyH_take (i := 26) (oi := ?oi26) (v := (.int .i64 c.maxBody)) ?hi26 (by kernel_rfl) (by kernel_rfl) (by kernel_rfl) ?hQ26 ?hy26 hHeld ?rest26
          case hi26 =>
            simp only [List.getElem?_toArray, List.getElem?_cons_succ, List.getElem?_cons_zero]
            rfl
          case hQ26 => exact fun _ _ _ h => h
          case hy26 =>
            refine Or.inl ⟨by rfl, ?_⟩
            intro w hSw
            have hcc := hSw.out.cell 12 _ rfl
            go_simp
          try simp only [Act.put, List.setIfInBounds_toArray, List.set_cons_zero, List.set_cons_succ]
          refine wpAnyH_take (i := 27) (oi := ?oi27) (v := (.int .i64 (c.maxHead + c.maxBody))) ?hi27 (by kernel_rfl) (by kernel_rfl) (by kernel_rfl) ?hQ27 ?hy27 hHeld ?rest27
          case hi27 =>
            simp only [List.getElem?_toArray, List.getElem?_cons_succ, List.getElem?_cons_zero]
            rfl
          case hQ27 => exact fun _ _ _ h => h
          case hy27 =>
            refine Or.inl ⟨by rfl, ?_⟩
            intro w hSw
            go_simp
          try simp only [Act.put, List.setIfInBounds_toArray, List.set_cons_zero, List.set_cons_succ]
          refine wpAnyH_take (i := 28) (oi := ?oi28) (v := (.int .i64 (c.maxHead + c.maxBody + 8192))) ?hi28 (by kernel_rfl) (by kernel_rfl) (by kernel_rfl) ?hQ28 ?hy28 hHeld ?rest28
          case hi28 =>
            simp only [List.getElem?_toArray, List.getElem?_cons_succ, List.getElem?_cons_zero]
            rfl
          case hQ28 => exact fun _ _ _ h => h
          case hy28 =>
            refine Or.inl ⟨by rfl, ?_⟩
            intro w hSw
            go_simp
          try simp only [Act.put, List.setIfInBounds_toArray, List.set_cons_zero, List.set_cons_succ]
          refine wpAnyH_take (i := 29) (oi := ?oi29) (v := (.int .i64 (n * (c.maxHead + c.maxBody + 8192)))) ?hi29 (by kernel_rfl) (by kernel_rfl) (by kernel_rfl) ?hQ29 ?hy29 hHeld ?rest29
          case hi29 =>
            simp only [List.getElem?_toArray, List.getElem?_cons_succ, List.getElem?_cons_zero]
            rfl
          case hQ29 => exact fun _ _ _ h => h
          case hy29 =>
            refine Or.inl ⟨by rfl, ?_⟩
            intro w hSw
            go_simp
          try simp only [Act.put, List.setIfInBounds_toArray, List.set_cons_zero, List.set_cons_succ]
          refine wpAnyH_take (i := 30) (oi := ?oi30) (v := (.int .i64 (c.clients * (2 * c.maxHead + c.maxBody + c.maxOut + 8192) + n * (c.maxHead + c.maxBody + 8192)))) ?hi30 (by kernel_rfl) (by kernel_rfl) (by kernel_rfl) ?hQ30 ?hy30 hHeld ?rest30
          case hi30 =>
            simp only [List.getElem?_toArray, List.getElem?_cons_succ, List.getElem?_cons_zero]
            rfl
          case hQ30 => exact fun _ _ _ h => h
          case hy30 =>
            refine Or.inl ⟨by rfl, ?_⟩
            intro w hSw
            go_simp
          try simp only [Act.put, List.setIfInBounds_toArray, List.set_cons_zero, List.set_cons_succ]
          refine wpAnyH_take (i := 31) (oi := ?oi31) (v := (.int .i64 (c.clients + n + (c.hosts.length : Int)))) ?hi31 (by kernel_rfl) (by kernel_rfl) (by kernel_rfl) ?hQ31 ?hy31 hHeld ?rest31
          case hi31 =>
            simp only [List.getElem?_toArray, List.getElem?_cons_succ, List.getElem?_cons_zero]
            rfl
          case hQ31 => exact fun _ _ _ h => h
          case hy31 =>
            refine Or.inl ⟨by rfl, ?_⟩
            intro w hSw
            go_simp
          try simp only [Act.put, List.setIfInBounds_toArray, List.set_cons_zero, List.set_cons_succ]
          refine wpAnyH_take (i := 32) (oi := ?oi32) (v := (.int .i64 (4 * c.clients + 3 * n + 3 * (c.hosts.length : Int) + m * c.clients))) ?hi32 (by kernel_rfl) (by kernel_rfl) (by kernel_rfl) ?hQ32 ?hy32 hHeld ?rest32
          case hi32 =>
            simp only [List.getElem?_toArray, List.getElem?_cons_succ, List.getElem?_cons_zero]
            rfl
          case hQ32 => exact fun _ _ _ h => h
          case hy32 =>
            refine Or.inl ⟨by rfl, ?_⟩
            intro w hSw
            go_simp
          try simp only [Act.put, List.setIfInBounds_toArray, List.set_cons_zero, List.set_cons_succ]
          refine wpAnyH_take (i := 33) (oi := ?oi33) (v := (.int .i64 (c.clients * (2 * c.maxHead + c.maxBody + c.maxOut + 8192) + n * (c.maxHead + c.maxBody + 8192)))) ?hi33 (by kernel_rfl) (by kernel_rfl) (by kernel_rfl) ?hQ33 ?hy33 hHeld ?rest33
          case hi33 =>
            simp only [List.getElem?_toArray, List.getElem?_cons_succ, List.getElem?_cons_zero]
            rfl
          case hQ33 => exact fun _ _ _ h => h
          case hy33 =>
            refine Or.inl ⟨by rfl, ?_⟩
            intro w hSw
            go_simp
          try simp only [Act.put, List.setIfInBounds_toArray, List.set_cons_zero, List.set_cons_succ]
          refine wpAnyH_done (by kernel_rfl) ?_ _
          go_wp2_with fail
          go_ret3
          refine ⟨?_, HC.out.drew⟩
          rw [HCN.out, HTN.out, HBN.out, HKK.out, HMM.out]
          rfl
end Go.Proofs.YtjndgkbikhndoaaGreatDoor
