/- Layer 13, the reference: Right, Check. -/
import Derived.Test.YtjndgkbikhndoaaGreatDoorX3
namespace Go.Proofs.YtjndgkbikhndoaaGreatDoor
open Go.RowKit Go.ChangeShapes Go.WideShapes
set_option linter.unusedVariables false
set_option linter.unusedSimpArgs false

def probesB (c : Cf) : Bool := inR c.every 0 M6 && (inR c.timeout 1 M6 && (inR c.up 1 100 && (inR c.down 1 100 && pathOK c)))
def outB (c : Cf) : Bool := inR c.fails 0 1000 && (inR c.base 1 M6 && (inR c.longest 1 M6 && (decide (c.base ≤ c.longest) && inR c.share 0 100)))
def sizesB (c : Cf) : Bool := inR c.maxHead 16 65536 && (inR c.maxBody 0 1048576 && inR c.maxOut 1 1048576)
def restB (c : Cf) : Bool := inR c.headTime 1 M6 && (inR c.idle 1 M6 && (inR c.life 1 M6 && inR c.clients 1 256))
theorem inR_max (n a b : Int) : inR n (max 1 a) b = (inR n 1 b && decide (a ≤ n)) := by
  unfold inR
  rw [Bool.eq_iff_iff]
  simp only [Bool.and_eq_true, decide_eq_true_eq]
  omega
theorem tail_chain (c : Cf) : (pathOK c && allR c.nums) = (probesB c && (outB c && (sizesB c && restB c))) := by
  unfold allR Cf.nums probesB outB sizesB restB
  simp only [List.all_cons, List.all_nil, Bool.and_true, inR_max]
  ac_rfl
theorem inR_len (n : Nat) : inR n 1 16 = (decide (1 ≤ n) && decide (n ≤ 16)) := by
  unfold inR
  congr 1
  · exact decide_eq_decide.2 (by omega)
  · exact decide_eq_decide.2 (by omega)
theorem right_chain (c : Cf) : rightB c = (inR c.hosts.length 1 16 && (inR c.routes.length 1 16 && ((c.hosts.all htOK && decide (c.hosts.map (fun h => h.name)).Nodup) && (c.routes.all (fun r => routeOK r c.hosts.length) && (probesB c && (outB c && (sizesB c && restB c))))))) := by
  rw [inR_len, inR_len, ← tail_chain]
  unfold rightB
  ac_rfl
theorem htOK_eq (h : Ht) : htOK h = (hostOK h.name && (inR h.cap 1 64 && inR h.pend 0 64)) := by
  unfold htOK allR
  simp only [List.all_cons, List.all_nil, Bool.and_true]
theorem pathOK_eq (c : Cf) : pathOK c = ((placeOK c.path && decide (c.path.size ≤ 8179)) || (decide (c.path.size = 0) && decide (c.every = 0))) := rfl
set_option maxHeartbeats 16000000 in
set_option maxRecDepth 100000 in
theorem right_any (c : Cf) (hv rv : Value) (ps : List (Value × Value)) (w : World) (hC : Hid (CfAt w c hv rv ps)) (hS : Hid (CfSz c)) (z : Bool) (hz : rightB c = z) :
    Calls Tryz.prog 32 #[.agg (cfRow c hv rv).toArray] w fun e w' => e = .returned (.bool z) ∧ Hid (Chg [] w w') := by
  have HZ := Lib.hid ((right_chain c).symm.trans hz)
  clear hz
  have hl1 : (c.hosts.map htRow).length = c.hosts.length := List.length_map _
  obtain ⟨A, cap, rfl⟩ := hC.out.hs.form
  rw [hl1] at hC ⊢
  have hl2 : ((c.routes.zip ps).map (fun x => rtRow x.1 x.2.1 x.2.2)).length = c.routes.length := by
    have := hC.out.rs.len
    rw [List.length_map, List.length_zip]
    omega
  obtain ⟨A2, cap2, rfl⟩ := hC.out.rs.tb.form
  rw [hl2] at hC ⊢
  have HL1 := Lib.hid hl1
  have HL2 := Lib.hid hl2
  have hcap := hC.out.hs.cap
  have hcap2 := hC.out.rs.tb.cap
  clear hl1 hl2
  have HB0 := Lib.hid (Blk.new w (cfRow c (.slice A c.hosts.length cap) (.slice A2 c.routes.length cap2)) 36)
  have HC0 := Lib.hid ((Chg.refl [] w).alloc (.cells (cfRow c (.slice A c.hosts.length cap) (.slice A2 c.routes.length cap2)).toArray 36))
  have hhn := hS.out.hn
  have hrn := hS.out.rn
  obtain ⟨z1, hz1⟩ : ∃ q, inR c.hosts.length 1 16 = q := ⟨_, rfl⟩
  obtain ⟨z2, hz2⟩ : ∃ q, inR c.routes.length 1 16 = q := ⟨_, rfl⟩
  rw [hz1, hz2] at HZ
  have HZ1 := Lib.hid hz1
  have HZ2 := Lib.hid hz2
  clear hz1 hz2
  change Calls Tryz.prog 32 #[.agg #[.slice A c.hosts.length cap, .slice A2 c.routes.length cap2, .int .i64 c.every, .int .i64 c.timeout, .int .i64 c.up, .int .i64 c.down, .string c.path, .int .i64 c.fails, .int .i64 c.base, .int .i64 c.longest, .int .i64 c.share, .int .i64 c.maxHead, .int .i64 c.maxBody, .int .i64 c.maxOut, .int .i64 c.headTime, .int .i64 c.idle, .int .i64 c.life, .int .i64 c.clients]] w _
  go_enter Tryz.func32, Tryz.ntmps32
  go_upto_region 1 with fail
  change Hid (Blk (w.alloc (.cells #[.slice A c.hosts.length cap, .slice A2 c.routes.length cap2, .int .i64 c.every, .int .i64 c.timeout, .int .i64 c.up, .int .i64 c.down, .string c.path, .int .i64 c.fails, .int .i64 c.base, .int .i64 c.longest, .int .i64 c.share, .int .i64 c.maxHead, .int .i64 c.maxBody, .int .i64 c.maxOut, .int .i64 c.headTime, .int .i64 c.idle, .int .i64 c.life, .int .i64 c.clients] 36)) _ _ _) at HB0
  change Hid (Chg [] w (w.alloc (.cells #[.slice A c.hosts.length cap, .slice A2 c.routes.length cap2, .int .i64 c.every, .int .i64 c.timeout, .int .i64 c.up, .int .i64 c.down, .string c.path, .int .i64 c.fails, .int .i64 c.base, .int .i64 c.longest, .int .i64 c.share, .int .i64 c.maxHead, .int .i64 c.maxBody, .int .i64 c.maxOut, .int .i64 c.headTime, .int .i64 c.idle, .int .i64 c.life, .int .i64 c.clients] 36))) at HC0
  generalize w.alloc (.cells #[.slice A c.hosts.length cap, .slice A2 c.routes.length cap2, .int .i64 c.every, .int .i64 c.timeout, .int .i64 c.up, .int .i64 c.down, .string c.path, .int .i64 c.fails, .int .i64 c.base, .int .i64 c.longest, .int .i64 c.share, .int .i64 c.maxHead, .int .i64 c.maxBody, .int .i64 c.maxOut, .int .i64 c.headTime, .int .i64 c.idle, .int .i64 c.life, .int .i64 c.clients] 36) = W1 at HB0 HC0 ⊢
  generalize w.heap.size = b at HB0 ⊢
  have HB := HB0
  have HC := HC0
  clear HB0 HC0
  have c0 := HB.out.cell 0 _ rfl
  have c1 := HB.out.cell 1 _ rfl
  go_wp2_with fail
  refine (rin_any c.hosts.length 1 16 _ z1 HZ1.out).mono ?_
  rintro e w' ⟨rfl, rfl⟩
  cases z1
  · skip
    have HR := Lib.hid (show z = false from by rw [← HZ.out]; rfl)
    go_wp2
    go_ret
    exact ⟨by rw [HR.out]; rfl, HC.out⟩
  go_wp2_with fail
  refine (rin_any c.routes.length 1 16 _ z2 HZ2.out).mono ?_
  rintro e w' ⟨rfl, rfl⟩
  cases z2
  · skip
    have HR := Lib.hid (show z = false from by rw [← HZ.out]; rfl)
    go_wp2
    go_ret
    exact ⟨by rw [HR.out]; rfl, HC.out⟩
  have HZ3 := Lib.hid (show (((c.hosts.all htOK && decide (c.hosts.map (fun h => h.name)).Nodup) && (c.routes.all (fun r => routeOK r c.hosts.length) && (probesB c && (outB c && (sizesB c && restB c)))))) = z from by rw [← HZ.out]; rfl)
  clear HZ
  have HZ := HZ3
  clear HZ3
  go_wp2_with fail
  clear c0 c1
  go_loopw [26] (fun i wr => ∃ k : Nat, i = .int .i64 k ∧ k ≤ c.hosts.length ∧ Hid (∀ (j : Nat) (x : Ht), j < k → c.hosts[j]? = some x → htOK x = true) ∧ Hid (((c.hosts.map (fun h => h.name)).take k).Nodup) ∧ Hid (Chg [] W1 wr)) (fun i _ => c.hosts.length - (intOf i).toNat)
  case atStart => exact ⟨0, rfl, by omega, Lib.hid (fun j x hj => by omega), Lib.hid (by simp), Chg.refl _ _⟩
  case round =>
    obtain ⟨k, rfl, hk, HK, HN, HCk⟩ := hrel
    by_cases hlt : k < c.hosts.length
    · obtain ⟨bh, oh, rfl, hbs, hx⟩ := hC.out.hs.at3 (by rw [HL1.out]; omega)
      obtain ⟨x, hxk⟩ : ∃ x, c.hosts[k]? = some x := ⟨_, List.getElem?_eq_getElem hlt⟩
      obtain ⟨q0, q1, q2⟩ := hx k _ _ _ (by rw [List.getElem?_map, hxk]; rfl)
      have HCa := Lib.hid (HC.out.trans HCk.out (by simp))
      have q0 := HCa.out.cell q0 (by simp)
      have q1 := HCa.out.cell q1 (by simp)
      have q2 := HCa.out.cell q2 (by simp)
      have hns := hS.out.hs x (List.mem_of_getElem? hxk)
      have HX := Lib.hid hxk
      have HXX := Lib.hid hx
      have HXN := Lib.hid (show (c.hosts.map (fun h => h.name))[k]? = some x.name from by rw [List.getElem?_map, hxk]; rfl)
      clear hx hxk
      obtain ⟨name, cp, pd⟩ := x
      dsimp only at q0 q1 q2 hns HXN
      have HHT := Lib.hid (htOK_eq ⟨name, cp, pd⟩)
      dsimp only at HHT
      obtain ⟨y1, hy1⟩ : ∃ q, hostOK name = q := ⟨_, rfl⟩
      obtain ⟨y2, hy2⟩ : ∃ q, inR cp 1 64 = q := ⟨_, rfl⟩
      obtain ⟨y3, hy3⟩ : ∃ q, inR pd 0 64 = q := ⟨_, rfl⟩
      rw [hy1, hy2, hy3] at HHT
      have HY1 := Lib.hid hy1
      have HY2 := Lib.hid hy2
      have HY3 := Lib.hid hy3
      clear hy1 hy2 hy3
      have HP0 := Lib.hid (Blk.new wr [.string name, .int .i64 cp, .int .i64 pd] 45)
      have HC1 := Lib.hid (HCk.out.alloc (.cells #[.string name, .int .i64 cp, .int .i64 pd] 45))
      go_upto_region 6 with fail
      change Hid (Blk (wr.alloc (.cells #[.string name, .int .i64 cp, .int .i64 pd] 45)) _ _ _) at HP0
      generalize wr.alloc (.cells #[.string name, .int .i64 cp, .int .i64 pd] 45) = Wp at HP0 HC1 ⊢
      generalize wr.heap.size = p at HP0 ⊢
      clear q0 q1 q2 HCa HCk
      have d0 := HP0.out.cell 0 _ rfl
      have HCC := Lib.hid (HC.out.trans HC1.out (by simp))
      go_wp2_with fail
      refine (rhost_any name _ hns y1 HY1.out).mono ?_
      rintro e w6 ⟨rfl, H6⟩
      have HP6 := Lib.hid (HP0.out.chg H6.out (by simp))
      have HC6 := Lib.hid (HC1.out.trans H6.out (by simp))
      have HCx := Lib.hid (HCC.out.trans H6.out (by simp))
      clear d0 HP0 HC1 HCC
      have d0 := HP6.out.cell 0 _ rfl
      have d1 := HP6.out.cell 1 _ rfl
      have d2 := HP6.out.cell 2 _ rfl
      cases y1
      · have HR := Lib.hid (show z = false from by rw [← HZ.out, any_hit HX.out (by rw [HHT.out]; rfl)]; rfl)
        go_wp2
        go_ret
        exact ⟨by rw [HR.out]; rfl, HCx.out⟩
      go_wp2_with fail
      refine (rin_any cp 1 64 _ y2 HY2.out).mono ?_
      rintro e w' ⟨rfl, rfl⟩
      cases y2
      · have HR := Lib.hid (show z = false from by rw [← HZ.out, any_hit HX.out (by rw [HHT.out]; rfl)]; rfl)
        go_wp2
        go_ret
        exact ⟨by rw [HR.out]; rfl, HCx.out⟩
      go_wp2_with fail
      refine (rin_any pd 0 64 _ y3 HY3.out).mono ?_
      rintro e w' ⟨rfl, rfl⟩
      cases y3
      · have HR := Lib.hid (show z = false from by rw [← HZ.out, any_hit HX.out (by rw [HHT.out]; rfl)]; rfl)
        go_wp2
        go_ret
        exact ⟨by rw [HR.out]; rfl, HCx.out⟩
      have HK2 := Lib.hid (next_good (p := htOK) HK.out HX.out (by rw [HHT.out]; rfl))
      go_wp2_with fail
      clear d0 d1 d2
      go_loopw [5] (fun i2 wr2 => ∃ m : Nat, i2 = .int .i64 m ∧ m ≤ k ∧ Hid (∀ (j : Nat) y, j < m → (c.hosts.map (fun h => h.name))[j]? = some y → y ≠ name) ∧ Hid (Blk wr2 p [.string name, .int .i64 cp, .int .i64 pd] 45) ∧ Hid (Chg [] W1 wr2)) (fun i2 _ => k - (intOf i2).toNat)
      case atStart => exact ⟨0, rfl, by omega, Lib.hid (fun j g hj => by omega), HP6, HC6⟩
      case round =>
        obtain ⟨m, rfl, hm, HM, HP7, HC7⟩ := hrel
        by_cases hmk : m < k
        · obtain ⟨y, hym⟩ : ∃ y, c.hosts[m]? = some y := ⟨_, List.getElem?_eq_getElem (by omega)⟩
          obtain ⟨u0, -, -⟩ := HXX.out m _ _ _ (by rw [List.getElem?_map, hym]; rfl)
          have HCb := Lib.hid (HC.out.trans HC7.out (by simp))
          have u0 := HCb.out.cell u0 (by simp)
          have HYN := Lib.hid (show (c.hosts.map (fun h => h.name))[m]? = some y.name from by rw [List.getElem?_map, hym]; rfl)
          clear hym
          generalize y.name = yn at *
          have d0 := HP7.out.cell 0 _ rfl
          have c0 := (HB.out.chg HC7.out (by simp)).cell 0 _ rfl
          by_cases hxy : yn = name
          · have HR := Lib.hid (show z = false from by rw [← HZ.out, decide_eq_false (nodup_hit HXN.out (taken (by rw [HYN.out, hxy]) hmk)), Bool.and_false]; rfl)
            have hq : (yn.toList == name.toList) = true := by rw [hxy]; exact eqb_true name
            clear hxy
            go_wp2
            go_region
            go_wp2
            go_ret
            exact ⟨by rw [HR.out]; rfl, HCb.out.drew⟩
          · have HM2 := Lib.hid (show ∀ (j : Nat) u, j < m + 1 → (c.hosts.map (fun h => h.name))[j]? = some u → u ≠ name from fun j u hj hu => by
              rcases Nat.lt_or_ge j m with q | q
              · exact HM.out j u q hu
              · obtain rfl : j = m := by omega
                rw [HYN.out] at hu
                injection hu with hu
                rw [← hu]
                exact hxy)
            have hq := eqb_false hxy
            clear hxy
            go_wp2
            go_region
            go_wp2
            go_roundw
            case rel => exact ⟨m + 1, by go_num, by omega, HM2, HP7.out.chg (Chg.refl [] _).drew (by simp), HC7.out.drew⟩
            case measure => simp [intOf]; omega
        · obtain rfl : m = k := by omega
          have HN2 := Lib.hid (nodup_next HN.out HXN.out (not_taken HM.out))
          go_wp2
          go_roundw
          case rel => exact ⟨m + 1, by go_num, by omega, HK2, HN2, HC7⟩
          case measure => simp [intOf]; omega
    · obtain rfl : k = c.hosts.length := by omega
      have HZ3 := Lib.hid (show (c.routes.all (fun r => routeOK r c.hosts.length) && (probesB c && (outB c && (sizesB c && restB c)))) = z from by
        have h2 := HN.out
        rw [List.take_of_length_le (by rw [List.length_map]; exact Nat.le_refl _)] at h2
        rw [← HZ.out, all_good HK.out, decide_eq_true h2]
        rfl)
      have HB2 := Lib.hid (HB.out.chg HCk.out (by simp))
      have HC2 := Lib.hid (HC.out.trans HCk.out (by simp))
      clear HZ HB HC HK HN HCk hk hlt hcap hhn HZ1 HZ2
      have HZ := HZ3
      have HB := HB2
      have HC := HC2
      clear HZ3 HB2 HC2
      generalize wr = Wm at *
      have c1 := HB.out.cell 1 _ rfl
      go_wp2_with fail
      clear c1
      go_loopw [65] (fun i wr => ∃ k : Nat, i = .int .i64 k ∧ k ≤ c.routes.length ∧ Hid (∀ (j : Nat) (x : Rt), j < k → c.routes[j]? = some x → routeOK x c.hosts.length = true) ∧ Hid (Chg [] Wm wr)) (fun i _ => c.routes.length - (intOf i).toNat)
      case atStart => exact ⟨0, rfl, by omega, Lib.hid (fun j x hj => by omega), Chg.refl _ _⟩
      case round =>
        obtain ⟨k, rfl, hk, HN, HCk⟩ := hrel
        by_cases hlt : k < c.routes.length
        · have HCr := Lib.hid (HC.out.trans HCk.out (by simp))
          have HBr := Lib.hid (HB.out.chg HCk.out (by simp))
          obtain ⟨r, hr⟩ : ∃ r, c.routes[k]? = some r := ⟨_, List.getElem?_eq_getElem hlt⟩
          obtain ⟨p, hp⟩ : ∃ p, ps[k]? = some p := ⟨_, List.getElem?_eq_getElem (by rw [hC.out.rs.len]; exact hlt)⟩
          have hrow : ((c.routes.zip ps).map (fun x => rtRow x.1 x.2.1 x.2.2))[k]? = some (rtRow r p.1 p.2) := by
            rw [List.getElem?_map, (List.getElem?_zip_eq_some (z := (r, p))).2 ⟨hr, hp⟩]
            rfl
          have HRA := Lib.hid (hC.out.rs.each k r p hr hp)
          obtain ⟨p1, p2⟩ := p
          dsimp only at HRA hrow
          obtain ⟨Am, cm, rfl⟩ := HRA.out.ms.form
          obtain ⟨Ah, ch, rfl⟩ := HRA.out.hs.form
          generalize hlm : (strRows r.m.methods).length = lm at *
          generalize hlh : (intRows r.hosts).length = lh at *
          clear hlm hlh
          obtain ⟨A3, cap3, e3, -, h3⟩ := hC.out.rs.tb
          injection e3 with e31 e32 e33
          subst e31
          obtain ⟨br, or, rfl, hbr, hx⟩ := h3 (by rw [HL2.out]; omega)
          have HLD := Lib.hid (load_row 42 _ (rtRow r (.slice Am lm cm) (.slice Ah lh ch)) Tryz.underlying42 rfl (by kernel_rfl) (fun j x hj => HCr.out.cell (hx k _ hrow j x hj) (by simp)))
          have HST := Lib.hid (run_storeVar_new (P := Tryz.prog) wr 42 zeroRt (rtRow r (.slice Am lm cm) (.slice Ah lh ch)).toArray (by kernel_rfl) rfl (by simp [Value.oneCell', rtRow]))
          have HRS := Lib.hid (hS.out.rs r (List.mem_of_getElem? hr))
          have HX := Lib.hid hr
          clear hx hrow hr hp h3 e32 e33 hbr
          go_upto_region 17 with (first | refine wpList_load_row rfl 42 _ rfl ⟨br, or + k * 21, none⟩ _ rfl HLD.out ?_ | refine wpList_store_row rfl 42 _ _ rfl ⟨wr.heap.size, 0, none⟩ _ _ rfl rfl HST.out ?_)
          have HBL := Lib.hid (Blk.new wr (rtRow r (.slice Am lm cm) (.slice Ah lh ch)) 42)
          have HBz := Lib.hid (HBr.out.alloc (.cells (rtRow r (.slice Am lm cm) (.slice Ah lh ch)).toArray 42))
          have HCz := Lib.hid (HCk.out.alloc (.cells (rtRow r (.slice Am lm cm) (.slice Ah lh ch)).toArray 42))
          generalize wr.alloc (.cells (rtRow r (.slice Am lm cm) (.slice Ah lh ch)).toArray 42) = Wz at HBL HBz HCz ⊢
          generalize wr.heap.size = p at HBL ⊢
          have HLD2 := Lib.hid (load_row 42 _ (rtRow r (.slice Am lm cm) (.slice Ah lh ch)) Tryz.underlying42 rfl (by kernel_rfl) (fun j x hj => by rw [Nat.zero_add]; exact HBL.out.cell j x hj))
          have HCw := Lib.hid (HC.out.trans HCz.out (by simp))
          have HRz := Lib.hid (HRA.out.chg HCw.out)
          have c0 := HBz.out.cell 0 _ rfl
          clear HLD HST HBr HCr HBL
          go_wp2_with (refine wpList_load_row rfl 42 _ rfl ⟨p, 0, none⟩ _ rfl HLD2.out ?_)
          clear c0
          cases hrt : routeOK r c.hosts.length
          · have HR := Lib.hid (show z = false from by rw [← HZ.out, any_hit (p := fun r : Rt => routeOK r c.hosts.length) HX.out hrt]; rfl)
            have HRT := Lib.hid hrt
            clear hrt
            refine (rroute_any r _ _ c.hosts.length _ HRz HRS false HRT.out).mono ?_
            rintro e w8 ⟨rfl, H8⟩
            go_wp2_with fail
            go_ret
            exact ⟨by rw [HR.out]; rfl, HCw.out.trans H8.out (by simp)⟩
          · have HN2 := Lib.hid (next_good (p := fun r : Rt => routeOK r c.hosts.length) HN.out HX.out hrt)
            have HRT := Lib.hid hrt
            clear hrt
            refine (rroute_any r _ _ c.hosts.length _ HRz HRS true HRT.out).mono ?_
            rintro e w8 ⟨rfl, H8⟩
            go_wp2_with fail
            go_roundw
            case rel => exact ⟨k + 1, by go_num, by omega, HN2, HCz.out.trans H8.out (by simp)⟩
            case measure => simp [intOf]; omega
        · obtain rfl : k = c.routes.length := by omega
          have HZ3 := Lib.hid (show (probesB c && (outB c && (sizesB c && restB c))) = z from by rw [← HZ.out, all_good HN.out]; rfl)
          have HB2 := Lib.hid (HB.out.chg HCk.out (by simp))
          have HC2 := Lib.hid (HC.out.trans HCk.out (by simp))
          clear HZ HB HC HN HCk hk hlt hrn hcap2
          have HZ := HZ3
          have HB := HB2
          have HC := HC2
          clear HZ3 HB2 HC2
          generalize wr = Wx at *
          have hps := hS.out.path
          clear HL1 HL2
          go_upto_region 20 with fail
          have c2 := HB.out.cell 2 _ rfl
          have c3 := HB.out.cell 3 _ rfl
          have c4 := HB.out.cell 4 _ rfl
          have c5 := HB.out.cell 5 _ rfl
          have c6 := HB.out.cell 6 _ rfl
          obtain ⟨p1, hp1⟩ : ∃ q, inR c.every 0 M6 = q := ⟨_, rfl⟩
          have Hp1 := Lib.hid hp1
          obtain ⟨p2, hp2⟩ : ∃ q, inR c.timeout 1 M6 = q := ⟨_, rfl⟩
          have Hp2 := Lib.hid hp2
          obtain ⟨p3, hp3⟩ : ∃ q, inR c.up 1 100 = q := ⟨_, rfl⟩
          have Hp3 := Lib.hid hp3
          obtain ⟨p4, hp4⟩ : ∃ q, inR c.down 1 100 = q := ⟨_, rfl⟩
          have Hp4 := Lib.hid hp4
          obtain ⟨pl, hpl⟩ : ∃ q, placeOK c.path = q := ⟨_, rfl⟩
          have HPL := Lib.hid hpl
          have HX := Lib.hid (show probesB c = (p1 && (p2 && (p3 && (p4 && pathOK c)))) from by rw [← hp1, ← hp2, ← hp3, ← hp4]; rfl)
          have HPO := Lib.hid (show pathOK c = ((pl && decide (c.path.size ≤ 8179)) || (decide (c.path.size = 0) && decide (c.every = 0))) from by rw [← hpl]; rfl)
          clear hp1 hp2 hp3 hp4 hpl
          go_cut [8] (fun s8 wx => s8 = .bool (probesB c) ∧ Hid (Blk wx b (cfRow c (.slice A c.hosts.length cap) (.slice A2 c.routes.length cap2)) 36) ∧ Hid (Chg [] w wx))
          case first =>
            as_aux_lemma =>
              go_wp2_with fail
              refine (rin_any c.every 0 1000000 _ p1 Hp1.out).mono ?_
              rintro e w' ⟨rfl, rfl⟩
              cases p1
              · have HP := Lib.hid (show probesB c = false from by rw [HX.out]; rfl)
                go_wp2_with fail
                go_meet
                exact ⟨by first | (rw [HP.out]; done) | (rw [HP.out, HK5.out]; done) | (rw [HP.out]; rfl), HB, HC⟩
              go_wp2_with fail
              refine (rspan_any c.timeout _ p2 Hp2.out).mono ?_
              rintro e w' ⟨rfl, rfl⟩
              cases p2
              · have HP := Lib.hid (show probesB c = false from by rw [HX.out]; rfl)
                go_wp2_with fail
                go_meet
                exact ⟨by first | (rw [HP.out]; done) | (rw [HP.out, HK5.out]; done) | (rw [HP.out]; rfl), HB, HC⟩
              go_wp2_with fail
              refine (rin_any c.up 1 100 _ p3 Hp3.out).mono ?_
              rintro e w' ⟨rfl, rfl⟩
              cases p3
              · have HP := Lib.hid (show probesB c = false from by rw [HX.out]; rfl)
                go_wp2_with fail
                go_meet
                exact ⟨by first | (rw [HP.out]; done) | (rw [HP.out, HK5.out]; done) | (rw [HP.out]; rfl), HB, HC⟩
              go_wp2_with fail
              refine (rin_any c.down 1 100 _ p4 Hp4.out).mono ?_
              rintro e w' ⟨rfl, rfl⟩
              cases p4
              · have HP := Lib.hid (show probesB c = false from by rw [HX.out]; rfl)
                go_wp2_with fail
                go_meet
                exact ⟨by first | (rw [HP.out]; done) | (rw [HP.out, HK5.out]; done) | (rw [HP.out]; rfl), HB, HC⟩
              have HPX := Lib.hid (show probesB c = pathOK c from HX.out.trans rfl)
              go_wp2_with fail
              refine (rplace_any c.path _ pl HPL.out).mono ?_
              rintro e w9 ⟨rfl, H9⟩
              have HB9 := Lib.hid (HB.out.chg H9.out (by simp))
              have HC9 := Lib.hid (HC.out.trans H9.out (by simp))
              clear HB HC
              have HB := HB9
              have HC := HC9
              clear HB9 HC9
              clear c2 c3 c4 c5 c6
              have c2 := HB.out.cell 2 _ rfl
              have c6 := HB.out.cell 6 _ rfl
              cases pl
              · rw [Bool.false_and, Bool.false_or] at HPO
                by_cases k1 : c.path.size = 0
                · have k2 := emp_true k1
                  by_cases k3 : c.every = 0
                  · have HP := Lib.hid (show probesB c = true from by rw [HPX.out, HPO.out, decide_eq_true k1, decide_eq_true k3]; rfl)
                    have k4 : (c.every == 0) = true := beq_iff_eq.2 k3
                    clear k1 k3
                    go_wp2_with fail
                    go_meet
                    exact ⟨by first | (rw [HP.out]; done) | (rw [HP.out, HK5.out]; done) | (rw [HP.out]; rfl), HB, HC⟩
                  · have HP := Lib.hid (show probesB c = false from by rw [HPX.out, HPO.out, decide_eq_false k3, Bool.and_false])
                    have k4 : (c.every == 0) = false := beq_eq_false_iff_ne.2 k3
                    clear k1 k3
                    go_wp2_with fail
                    go_meet
                    exact ⟨by first | (rw [HP.out]; done) | (rw [HP.out, HK5.out]; done) | (rw [HP.out]; rfl), HB, HC⟩
                · have HP := Lib.hid (show probesB c = false from by rw [HPX.out, HPO.out, decide_eq_false k1]; rfl)
                  have k2 := emp_false k1
                  clear k1
                  go_wp2_with fail
                  go_meet
                  exact ⟨by first | (rw [HP.out]; done) | (rw [HP.out, HK5.out]; done) | (rw [HP.out]; rfl), HB, HC⟩
              · by_cases k1 : c.path.size ≤ 8179
                · have HP := Lib.hid (show probesB c = true from by rw [HPX.out, HPO.out, decide_eq_true k1]; rfl)
                  have k2 : (c.path.size : Int) ≤ 8179 := by omega
                  clear k1
                  go_wp2_with fail
                  go_meet
                  exact ⟨by first | (rw [HP.out]; done) | (rw [HP.out, HK5.out]; done) | (rw [HP.out]; rfl), HB, HC⟩
                · have HP := Lib.hid (show probesB c = false from by rw [HPX.out, HPO.out, decide_eq_false k1, decide_eq_false (show ¬ c.path.size = 0 by omega)]; rfl)
                  have k2 : ¬ (c.path.size : Int) ≤ 8179 := by omega
                  have HK5 := Lib.hid (show decide ((c.path.size : Int) ≤ 8179) = false from decide_eq_false k2)
                  have k5 : ((c.path.size : Int) ≤ 8179) = False := eq_false k2
                  have k3 := emp_false (s := c.path) (by omega)
                  clear k1
                  go_wp2_with fail
                  go_meet
                  exact ⟨by first | (rw [HP.out]; done) | (rw [HP.out, HK5.out]; done) | (rw [HP.out]; rfl), HB, HC⟩
          case rest =>
          clear c2 c3 c4 c5 c6
          clear HB HC HX HPO
          obtain ⟨rfl, HB, HC⟩ := hcut
          generalize probesB c = pb at HZ ⊢
          have c7 := HB.out.cell 7 _ rfl
          have c8 := HB.out.cell 8 _ rfl
          have c9 := HB.out.cell 9 _ rfl
          have c10 := HB.out.cell 10 _ rfl
          go_upto_region 21 with fail
          obtain ⟨o1, ho1⟩ : ∃ q, inR c.fails 0 1000 = q := ⟨_, rfl⟩
          have Ho1 := Lib.hid ho1
          obtain ⟨o2, ho2⟩ : ∃ q, inR c.base 1 M6 = q := ⟨_, rfl⟩
          have Ho2 := Lib.hid ho2
          obtain ⟨o3, ho3⟩ : ∃ q, inR c.longest 1 M6 = q := ⟨_, rfl⟩
          have Ho3 := Lib.hid ho3
          obtain ⟨o4, ho4⟩ : ∃ q, inR c.share 0 100 = q := ⟨_, rfl⟩
          have Ho4 := Lib.hid ho4
          have HX := Lib.hid (show outB c = (o1 && (o2 && (o3 && (decide (c.base ≤ c.longest) && o4)))) from by rw [← ho1, ← ho2, ← ho3, ← ho4]; rfl)
          clear ho1 ho2 ho3 ho4
          go_cut [9] (fun s9 wx => s9 = .bool (outB c) ∧ Hid (Blk wx b (cfRow c (.slice A c.hosts.length cap) (.slice A2 c.routes.length cap2)) 36) ∧ Hid (Chg [] w wx))
          case first =>
            as_aux_lemma =>
              go_wp2_with fail
              refine (rin_any c.fails 0 1000 _ o1 Ho1.out).mono ?_
              rintro e w' ⟨rfl, rfl⟩
              cases o1
              · have HP := Lib.hid (show outB c = false from by rw [HX.out]; rfl)
                go_wp2_with fail
                go_meet
                exact ⟨by first | (rw [HP.out]; done) | (rw [HP.out, HK5.out]; done) | (rw [HP.out]; rfl), HB, HC⟩
              go_wp2_with fail
              refine (rspan_any c.base _ o2 Ho2.out).mono ?_
              rintro e w' ⟨rfl, rfl⟩
              cases o2
              · have HP := Lib.hid (show outB c = false from by rw [HX.out]; rfl)
                go_wp2_with fail
                go_meet
                exact ⟨by first | (rw [HP.out]; done) | (rw [HP.out, HK5.out]; done) | (rw [HP.out]; rfl), HB, HC⟩
              go_wp2_with fail
              refine (rspan_any c.longest _ o3 Ho3.out).mono ?_
              rintro e w' ⟨rfl, rfl⟩
              cases o3
              · have HP := Lib.hid (show outB c = false from by rw [HX.out]; rfl)
                go_wp2_with fail
                go_meet
                exact ⟨by first | (rw [HP.out]; done) | (rw [HP.out, HK5.out]; done) | (rw [HP.out]; rfl), HB, HC⟩
              by_cases k1 : c.base ≤ c.longest
              · rw [decide_eq_true k1] at HX
                go_wp2_with fail
                refine (rin_any c.share 0 100 _ o4 Ho4.out).mono ?_
                rintro e w' ⟨rfl, rfl⟩
                cases o4
                · have HP := Lib.hid (show outB c = false from by rw [HX.out]; rfl)
                  go_wp2_with fail
                  go_meet
                  exact ⟨by first | (rw [HP.out]; done) | (rw [HP.out, HK5.out]; done) | (rw [HP.out]; rfl), HB, HC⟩
                have HP := Lib.hid (show outB c = true from HX.out.trans rfl)
                go_wp2_with fail
                go_meet
                exact ⟨by first | (rw [HP.out]; done) | (rw [HP.out, HK5.out]; done) | (rw [HP.out]; rfl), HB, HC⟩
              · rw [decide_eq_false k1] at HX
                have HP := Lib.hid (show outB c = false from HX.out.trans rfl)
                go_wp2_with fail
                go_meet
                exact ⟨by first | (rw [HP.out]; done) | (rw [HP.out, HK5.out]; done) | (rw [HP.out]; rfl), HB, HC⟩
          case rest =>
          clear c7 c8 c9 c10
          clear HB HC HX
          obtain ⟨rfl, HB, HC⟩ := hcut
          generalize outB c = ob at HZ ⊢
          have c11 := HB.out.cell 11 _ rfl
          have c12 := HB.out.cell 12 _ rfl
          have c13 := HB.out.cell 13 _ rfl
          go_upto_region 22 with fail
          obtain ⟨s1, hs1⟩ : ∃ q, inR c.maxHead 16 65536 = q := ⟨_, rfl⟩
          have Hs1 := Lib.hid hs1
          obtain ⟨s2, hs2⟩ : ∃ q, inR c.maxBody 0 1048576 = q := ⟨_, rfl⟩
          have Hs2 := Lib.hid hs2
          obtain ⟨s3, hs3⟩ : ∃ q, inR c.maxOut 1 1048576 = q := ⟨_, rfl⟩
          have Hs3 := Lib.hid hs3
          have HX := Lib.hid (show sizesB c = (s1 && (s2 && s3)) from by rw [← hs1, ← hs2, ← hs3]; rfl)
          clear hs1 hs2 hs3
          go_cut [10] (fun s10 wx => s10 = .bool (sizesB c) ∧ Hid (Blk wx b (cfRow c (.slice A c.hosts.length cap) (.slice A2 c.routes.length cap2)) 36) ∧ Hid (Chg [] w wx))
          case first =>
            as_aux_lemma =>
              go_wp2_with fail
              refine (rin_any c.maxHead 16 65536 _ s1 Hs1.out).mono ?_
              rintro e w' ⟨rfl, rfl⟩
              cases s1
              · have HP := Lib.hid (show sizesB c = false from by rw [HX.out]; rfl)
                go_wp2_with fail
                go_meet
                exact ⟨by first | (rw [HP.out]; done) | (rw [HP.out, HK5.out]; done) | (rw [HP.out]; rfl), HB, HC⟩
              go_wp2_with fail
              refine (rin_any c.maxBody 0 1048576 _ s2 Hs2.out).mono ?_
              rintro e w' ⟨rfl, rfl⟩
              cases s2
              · have HP := Lib.hid (show sizesB c = false from by rw [HX.out]; rfl)
                go_wp2_with fail
                go_meet
                exact ⟨by first | (rw [HP.out]; done) | (rw [HP.out, HK5.out]; done) | (rw [HP.out]; rfl), HB, HC⟩
              go_wp2_with fail
              refine (rin_any c.maxOut 1 1048576 _ s3 Hs3.out).mono ?_
              rintro e w' ⟨rfl, rfl⟩
              cases s3
              · have HP := Lib.hid (show sizesB c = false from by rw [HX.out]; rfl)
                go_wp2_with fail
                go_meet
                exact ⟨by first | (rw [HP.out]; done) | (rw [HP.out, HK5.out]; done) | (rw [HP.out]; rfl), HB, HC⟩
              have HP := Lib.hid (show sizesB c = true from HX.out.trans rfl)
              go_wp2_with fail
              go_meet
              exact ⟨by first | (rw [HP.out]; done) | (rw [HP.out, HK5.out]; done) | (rw [HP.out]; rfl), HB, HC⟩
          case rest =>
          clear c11 c12 c13
          clear HB HC HX
          obtain ⟨rfl, HB, HC⟩ := hcut
          generalize sizesB c = sb at HZ ⊢
          have c14 := HB.out.cell 14 _ rfl
          have c15 := HB.out.cell 15 _ rfl
          have c16 := HB.out.cell 16 _ rfl
          have c17 := HB.out.cell 17 _ rfl
          obtain ⟨t1, ht1⟩ : ∃ q, inR c.headTime 1 M6 = q := ⟨_, rfl⟩
          have Ht1 := Lib.hid ht1
          obtain ⟨t2, ht2⟩ : ∃ q, inR c.idle 1 M6 = q := ⟨_, rfl⟩
          have Ht2 := Lib.hid ht2
          obtain ⟨t3, ht3⟩ : ∃ q, inR c.life 1 M6 = q := ⟨_, rfl⟩
          have Ht3 := Lib.hid ht3
          obtain ⟨t4, ht4⟩ : ∃ q, inR c.clients 1 256 = q := ⟨_, rfl⟩
          have Ht4 := Lib.hid ht4
          have HX := Lib.hid (show restB c = (t1 && (t2 && (t3 && t4))) from by rw [← ht1, ← ht2, ← ht3, ← ht4]; rfl)
          clear ht1 ht2 ht3 ht4
          rw [HX.out] at HZ
          clear HX
          as_aux_lemma =>
            cases pb
            · skip
              have HR := Lib.hid (show z = false from by rw [← HZ.out]; rfl)
              go_wp2
              go_ret
              exact ⟨by rw [HR.out]; rfl, HC.out⟩
            cases ob
            · skip
              have HR := Lib.hid (show z = false from by rw [← HZ.out]; rfl)
              go_wp2
              go_ret
              exact ⟨by rw [HR.out]; rfl, HC.out⟩
            cases sb
            · skip
              have HR := Lib.hid (show z = false from by rw [← HZ.out]; rfl)
              go_wp2
              go_ret
              exact ⟨by rw [HR.out]; rfl, HC.out⟩
            go_wp2_with fail
            refine (rspan_any c.headTime _ t1 Ht1.out).mono ?_
            rintro e w' ⟨rfl, rfl⟩
            cases t1
            · skip
              have HR := Lib.hid (show z = false from by rw [← HZ.out]; rfl)
              go_wp2
              go_ret
              exact ⟨by rw [HR.out]; rfl, HC.out⟩
            go_wp2_with fail
            refine (rspan_any c.idle _ t2 Ht2.out).mono ?_
            rintro e w' ⟨rfl, rfl⟩
            cases t2
            · skip
              have HR := Lib.hid (show z = false from by rw [← HZ.out]; rfl)
              go_wp2
              go_ret
              exact ⟨by rw [HR.out]; rfl, HC.out⟩
            go_wp2_with fail
            refine (rspan_any c.life _ t3 Ht3.out).mono ?_
            rintro e w' ⟨rfl, rfl⟩
            cases t3
            · skip
              have HR := Lib.hid (show z = false from by rw [← HZ.out]; rfl)
              go_wp2
              go_ret
              exact ⟨by rw [HR.out]; rfl, HC.out⟩
            go_wp2_with fail
            refine (rin_any c.clients 1 256 _ t4 Ht4.out).mono ?_
            rintro e w' ⟨rfl, rfl⟩
            cases t4
            · skip
              have HR := Lib.hid (show z = false from by rw [← HZ.out]; rfl)
              go_wp2
              go_ret
              exact ⟨by rw [HR.out]; rfl, HC.out⟩
            have HR := Lib.hid (show z = true from by rw [← HZ.out]; rfl)
            go_wp2
            go_ret
            exact ⟨by rw [HR.out]; rfl, HC.out⟩
theorem rcheck_any (c : Cf) (hv rv : Value) (ps : List (Value × Value)) (w : World) (hC : Hid (CfAt w c hv rv ps)) (hS : Hid (CfSz c)) (z : Bool) (hz : rightB c = z) :
    Calls Tryz.prog 16 #[.agg (cfRow c hv rv).toArray] w fun e w' => e = .returned (.int .i64 (ok3 z)) ∧ Hid (Chg [] w w') := by
  have HB0 := Lib.hid (Blk.new w (cfRow c hv rv) 36)
  have HC0 := Lib.hid ((Chg.refl [] w).alloc (.cells (cfRow c hv rv).toArray 36))
  change Calls Tryz.prog 16 #[.agg #[hv, rv, .int .i64 c.every, .int .i64 c.timeout, .int .i64 c.up, .int .i64 c.down, .string c.path, .int .i64 c.fails, .int .i64 c.base, .int .i64 c.longest, .int .i64 c.share, .int .i64 c.maxHead, .int .i64 c.maxBody, .int .i64 c.maxOut, .int .i64 c.headTime, .int .i64 c.idle, .int .i64 c.life, .int .i64 c.clients]] w _
  go_enter Tryz.func16, Tryz.ntmps16
  go_upto_region 1 with fail
  change Hid (Blk (w.alloc (.cells #[hv, rv, .int .i64 c.every, .int .i64 c.timeout, .int .i64 c.up, .int .i64 c.down, .string c.path, .int .i64 c.fails, .int .i64 c.base, .int .i64 c.longest, .int .i64 c.share, .int .i64 c.maxHead, .int .i64 c.maxBody, .int .i64 c.maxOut, .int .i64 c.headTime, .int .i64 c.idle, .int .i64 c.life, .int .i64 c.clients] 36)) _ _ _) at HB0
  change Hid (Chg [] w (w.alloc (.cells #[hv, rv, .int .i64 c.every, .int .i64 c.timeout, .int .i64 c.up, .int .i64 c.down, .string c.path, .int .i64 c.fails, .int .i64 c.base, .int .i64 c.longest, .int .i64 c.share, .int .i64 c.maxHead, .int .i64 c.maxBody, .int .i64 c.maxOut, .int .i64 c.headTime, .int .i64 c.idle, .int .i64 c.life, .int .i64 c.clients] 36))) at HC0
  generalize w.alloc (.cells #[hv, rv, .int .i64 c.every, .int .i64 c.timeout, .int .i64 c.up, .int .i64 c.down, .string c.path, .int .i64 c.fails, .int .i64 c.base, .int .i64 c.longest, .int .i64 c.share, .int .i64 c.maxHead, .int .i64 c.maxBody, .int .i64 c.maxOut, .int .i64 c.headTime, .int .i64 c.idle, .int .i64 c.life, .int .i64 c.clients] 36) = W1 at HB0 HC0 ⊢
  generalize w.heap.size = b at HB0 ⊢
  have HLD := Lib.hid (load_row 36 _ (cfRow c hv rv) Tryz.underlying36 rfl (by kernel_rfl) (fun j x hj => by rw [Nat.zero_add]; exact HB0.out.cell j x hj))
  go_wp2_with (refine wpList_load_row rfl 36 _ rfl ⟨b, 0, none⟩ _ rfl HLD.out ?_)
  refine (right_any c hv rv ps _ (Lib.hid (hC.out.chg HC0.out)) hS z hz).mono ?_
  rintro e w2 ⟨rfl, H2⟩
  have HC := Lib.hid (HC0.out.trans H2.out (by simp))
  cases z
  · go_wp2
    go_ret
    exact ⟨rfl, HC.out⟩
  · go_wp2
    go_ret
    exact ⟨rfl, HC.out⟩
end Go.Proofs.YtjndgkbikhndoaaGreatDoor
