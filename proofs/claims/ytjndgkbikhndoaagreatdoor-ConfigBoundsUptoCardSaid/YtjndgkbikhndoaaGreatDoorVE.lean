/- Layer 13 (config): the walk of ConfigTurned. -/
import Derived.Test.YtjndgkbikhndoaaGreatDoorVC
import Derived.Test.YtjndgkbikhndoaaGreatDoorVD
namespace Go.Proofs.YtjndgkbikhndoaaGreatDoor
open Go.RowKit Go.ChangeShapes Go.WideShapes
set_option linter.unusedVariables false

def rtF (x : Rt × (Value × Value)) : List Value := rtRow x.1 x.2.1 x.2.2
theorem zip_rev {α β : Type} : ∀ (l : List α) (m : List β), l.length = m.length → (l.zip m).reverse = l.reverse.zip m.reverse
  | [], [], _ => rfl
  | [], _ :: _, h => by simp at h
  | _ :: _, [], h => by simp at h
  | a :: l, b :: m, h => by
    have hl : l.length = m.length := by simpa using h
    rw [List.zip_cons_cons, List.reverse_cons, zip_rev l m hl, List.reverse_cons, List.reverse_cons, List.zip_append (by simp [hl])]
    rfl
theorem turned_sz {c : Cf} (h : CfSz c) : CfSz c.turned :=
  ⟨fun x hx => h.hs x (List.mem_reverse.1 hx), fun x hx => h.rs x (List.mem_reverse.1 hx), by show c.hosts.reverse.length ≤ _; rw [List.length_reverse]; exact h.hn, by show c.routes.reverse.length ≤ _; rw [List.length_reverse]; exact h.rn, h.path⟩
theorem turned_at {w w' : World} {c : Cf} {hv rv v3 v5 : Value} {ps : List (Value × Value)} (h : CfAt w c hv rv ps) (hc : Chg [] w w') (h3 : Tbl w' v3 3 (c.hosts.reverse.map htRow)) (h5 : Tbl w' v5 21 ((c.routes.zip ps).reverse.map rtF)) : CfAt w' c.turned v3 v5 ps.reverse := by
  refine ⟨h3, ⟨by show ps.reverse.length = c.routes.reverse.length; rw [List.length_reverse, List.length_reverse, h.rs.len], ?_, ?_⟩⟩
  · rw [zip_rev _ _ h.rs.len.symm] at h5
    exact h5
  · intro i r p hr hp
    have hr : c.routes.reverse[i]? = some r := hr
    have hi := (List.getElem?_eq_some_iff.1 hr).1
    rw [List.length_reverse] at hi
    rw [List.getElem?_reverse hi] at hr
    rw [List.getElem?_reverse (by rw [h.rs.len]; exact hi), h.rs.len] at hp
    exact (h.rs.each _ r p hr hp).chg hc
theorem cf_load {w : World} {b : Nat} {c : Cf} {hv rv : Value} (h : Blk w b (cfRow c hv rv) 36) : (loadVar 36 ⟨b, 0, none⟩).run Tryz.prog w = .ok (.agg (cfRow c hv rv).toArray) w :=
  load_row 36 _ (cfRow c hv rv) Tryz.underlying36 rfl (by kernel_rfl) (fun j x hj => by rw [Nat.zero_add]; exact h.cell j x hj)
/-- A store elsewhere leaves a table. -/
theorem tbl_set {w : World} {A : Option Addr} {n cap k : Nat} {rows : List (List Value)} {p : Addr} {u : Value} (h : Tbl w (.slice A n cap) k rows) (hp : ∀ a, A = some a → a.block ≠ p.block) : Tbl (w.setCell p u) (.slice A n cap) k rows := by
  obtain ⟨A', cap', e, hc, hx⟩ := h
  injection e with e1 e2 e3
  subst e1
  refine ⟨A, cap', by rw [e2, e3], hc, fun h0 => ?_⟩
  obtain ⟨b, off, e, hb, hx⟩ := hx h0
  refine ⟨b, off, e, by simpa [World.setCell] using hb, fun i r hr j x hj => ?_⟩
  have hch : Chg [p.block] w (w.setCell p u) := (Chg.refl [p.block] w).setCell (by intro _; simp) u
  exact hch.cell (hx i r hr j x hj) (by simpa using hp _ e)
theorem tbl_set2 {w : World} {A : Option Addr} {n cap k b i j : Nat} {rows : List (List Value)} {u v : Value} (h : Tbl w (.slice A n cap) k rows) (hp : ∀ a, A = some a → a.block ≠ b) : Tbl ((w.setCell ⟨b, i, none⟩ u).setCell ⟨b, j, none⟩ v) (.slice A n cap) k rows := tbl_set (tbl_set h hp) hp
set_option maxHeartbeats 16000000 in
set_option maxRecDepth 100000 in
theorem turned_any (c : Cf) (hv rv : Value) (ps : List (Value × Value)) (w : World) (hE : Hid (Env w)) (hC : Hid (CfAt w c hv rv ps)) (hS : Hid (CfSz c)) :
    Calls Tryz.prog 5 #[.agg (cfRow c hv rv).toArray] w fun e w' => e = .returned (.bool true) ∧ Hid (Chg [] w w') := by
  have hl1 : (c.hosts.map htRow).length = c.hosts.length := List.length_map _
  obtain ⟨A, cap, rfl⟩ := hC.out.hs.form
  rw [hl1] at hC ⊢
  have hl2 : ((c.routes.zip ps).map (fun x => rtRow x.1 x.2.1 x.2.2)).length = c.routes.length := by
    have := hC.out.rs.len
    rw [List.length_map, List.length_zip]
    omega
  obtain ⟨A2, cap2, rfl⟩ := hC.out.rs.tb.form
  rw [hl2] at hC ⊢
  have HL1 := Lib.hid hl1
  have HL2 := Lib.hid hl2
  have hcap := hC.out.hs.cap
  have hcap2 := hC.out.rs.tb.cap
  clear hl1 hl2
  have HB0 := Lib.hid (Blk.new w (cfRow c (.slice A c.hosts.length cap) (.slice A2 c.routes.length cap2)) 36)
  have HC0 := Lib.hid ((Chg.refl [] w).alloc (.cells (cfRow c (.slice A c.hosts.length cap) (.slice A2 c.routes.length cap2)).toArray 36))
  have hhn := hS.out.hn
  have hrn := hS.out.rn
  obtain ⟨z, hz⟩ : ∃ z, rightB c = z := ⟨_, rfl⟩
  have HZ := Lib.hid hz
  clear hz
  change Calls Tryz.prog 5 #[.agg #[.slice A c.hosts.length cap, .slice A2 c.routes.length cap2, .int .i64 c.every, .int .i64 c.timeout, .int .i64 c.up, .int .i64 c.down, .string c.path, .int .i64 c.fails, .int .i64 c.base, .int .i64 c.longest, .int .i64 c.share, .int .i64 c.maxHead, .int .i64 c.maxBody, .int .i64 c.maxOut, .int .i64 c.headTime, .int .i64 c.idle, .int .i64 c.life, .int .i64 c.clients]] w _
  go_enter Tryz.func5, Tryz.ntmps5
  go_upto_region 2 with fail
  change Hid (Blk (w.alloc (.cells #[.slice A c.hosts.length cap, .slice A2 c.routes.length cap2, .int .i64 c.every, .int .i64 c.timeout, .int .i64 c.up, .int .i64 c.down, .string c.path, .int .i64 c.fails, .int .i64 c.base, .int .i64 c.longest, .int .i64 c.share, .int .i64 c.maxHead, .int .i64 c.maxBody, .int .i64 c.maxOut, .int .i64 c.headTime, .int .i64 c.idle, .int .i64 c.life, .int .i64 c.clients] 36)) _ _ _) at HB0
  change Hid (Chg [] w (w.alloc (.cells #[.slice A c.hosts.length cap, .slice A2 c.routes.length cap2, .int .i64 c.every, .int .i64 c.timeout, .int .i64 c.up, .int .i64 c.down, .string c.path, .int .i64 c.fails, .int .i64 c.base, .int .i64 c.longest, .int .i64 c.share, .int .i64 c.maxHead, .int .i64 c.maxBody, .int .i64 c.maxOut, .int .i64 c.headTime, .int .i64 c.idle, .int .i64 c.life, .int .i64 c.clients] 36))) at HC0
  generalize w.alloc (.cells #[.slice A c.hosts.length cap, .slice A2 c.routes.length cap2, .int .i64 c.every, .int .i64 c.timeout, .int .i64 c.up, .int .i64 c.down, .string c.path, .int .i64 c.fails, .int .i64 c.base, .int .i64 c.longest, .int .i64 c.share, .int .i64 c.maxHead, .int .i64 c.maxBody, .int .i64 c.maxOut, .int .i64 c.headTime, .int .i64 c.idle, .int .i64 c.life, .int .i64 c.clients] 36) = W1 at HB0 HC0 ⊢
  obtain ⟨b, hb0⟩ : ∃ b, w.heap.size = b := ⟨_, rfl⟩
  rw [hb0] at HB0 ⊢
  have HBW := Lib.hid (show w.heap.size ≤ b from by omega)
  clear hb0
  have HBl := Lib.hid HB0.out.lt
  have c0 := HB0.out.cell 0 _ rfl
  go_wp2_with fail
  clear c0
  go_loopw [3, 15] (fun v i wr => ∃ k : Nat, i = .int .i64 k ∧ k ≤ c.hosts.length ∧ Hid (OwnT W1.heap.size 45 3 wr v ((c.hosts.reverse.take k).map htRow)) ∧ Hid (Chg [] W1 wr)) (fun _ i _ => c.hosts.length - (intOf i).toNat)
  case atStart => exact ⟨0, rfl, by omega, Lib.hid (OwnT.nil _ _ _ _), Chg.refl _ _⟩
  case round =>
    obtain ⟨k, rfl, hk, HO, HCk⟩ := hrel
    by_cases hlt : k < c.hosts.length
    · obtain ⟨bh, oh, rfl, hbs, hx⟩ := hC.out.hs.at3 (by rw [HL1.out]; omega)
      obtain ⟨j, hj⟩ : ∃ j, c.hosts.length - 1 - k = j := ⟨_, rfl⟩
      have hji : (c.hosts.length : Int) - 1 - (k : Int) = (j : Int) := by omega
      have hjl : j < c.hosts.length := by omega
      obtain ⟨x, hxk⟩ : ∃ x, c.hosts[j]? = some x := ⟨_, List.getElem?_eq_getElem hjl⟩
      obtain ⟨q0, q1, q2⟩ := hx j _ _ _ (by rw [List.getElem?_map, hxk]; rfl)
      have HCa := Lib.hid (HC0.out.trans HCk.out (by simp))
      have q0 := HCa.out.cell q0 (by simp)
      have q1 := HCa.out.cell q1 (by simp)
      have q2 := HCa.out.cell q2 (by simp)
      have c0 := (HB0.out.chg HCk.out (by simp)).cell 0 _ rfl
      have HTK := Lib.hid (show (c.hosts.reverse.take (k + 1)).map htRow = (c.hosts.reverse.take k).map htRow ++ [htRow x] from by rw [take_rev_succ (by rw [hj]; exact hxk) hlt, List.map_append]; rfl)
      have htl : ((c.hosts.reverse.take k).map htRow).length ≤ 1048576 := by rw [List.length_map, List.length_take, List.length_reverse]; omega
      clear hx hxk hj
      obtain ⟨name, cp, pd⟩ := x
      dsimp only at q0 q1 q2
      generalize htk : (c.hosts.reverse.take k).map htRow = tk at *
      clear htk
      obtain ⟨Av, cv, rfl⟩ := HO.out.form
      obtain ⟨v5, w5, hr, ho, hg⟩ := run_pushT 33 45 3 32 _ 33 W1.heap.size (wr.alloc (.cells #[.string name, .int .i64 cp, .int .i64 pd] 45)) (.slice Av tk.length cv) tk [.string name, .int .i64 cp, .int .i64 pd] wr.heap.size Tryz.underlying33 info45 rfl (by decide) (HO.out.chg ((Chg.refl [] wr).alloc _)) (Blk.new _ _ _) rfl (by simp [Value.oneCell']) (by omega) (by omega) (by have := HCk.out.size; simp; omega)
      have HO5 := Lib.hid ho
      have HC5 := Lib.hid (Chg.grownOwn (HCk.out.alloc (.cells #[.string name, .int .i64 cp, .int .i64 pd] 45)) (HO.out.chg ((Chg.refl [] wr).alloc (.cells #[.string name, .int .i64 cp, .int .i64 pd] 45))) (Nat.le_refl _) hg)
      clear ho hg
      go_wp2_with (at_builtin; refine wpList_appT rfl 33 _ _ rfl _ _ rfl rfl v5 w5 hr ?_)
      go_roundw
      case rel => exact ⟨k + 1, by go_num, by omega, by rw [HTK.out]; exact HO5, HC5⟩
      case measure => simp [intOf]; omega
    · have hke : k = c.hosts.length := by omega
      subst hke
      rw [← List.length_reverse, List.take_length] at HO
      have HB := Lib.hid (HB0.out.chg HCk.out (by simp))
      have HC := Lib.hid (HC0.out.trans HCk.out (by simp))
      obtain ⟨A3, cap3, rfl⟩ := HO.out.form
      have HBN3 := Lib.hid (show ∀ a, A3 = some a → a.block ≠ b from fun a ha => by
        have h1 := HO.out.own_lt a.block (by rw [ha]; rfl)
        have h2 := HBl.out
        omega)
      generalize hln3 : (c.hosts.reverse.map htRow).length = ln3 at HO ⊢
      have HOh := HO
      clear hln3 HO HCk HB0 HC0 hk hlt
      have HBM := Lib.hid HB.out.lt
      generalize wr = Wm at *
      have c1 := HB.out.cell 1 _ rfl
      go_wp2_with fail
      clear c1
      go_loopw [5, 35] (fun v i wx => ∃ k : Nat, i = .int .i64 k ∧ k ≤ c.routes.length ∧ Hid (OwnT Wm.heap.size 42 21 wx v (((c.routes.zip ps).reverse.take k).map rtF)) ∧ Hid (Chg [] Wm wx)) (fun _ i _ => c.routes.length - (intOf i).toNat)
      case atStart => exact ⟨0, rfl, by omega, Lib.hid (OwnT.nil _ _ _ _), Chg.refl _ _⟩
      case round =>
        obtain ⟨k, rfl, hk, HO, HCk⟩ := hrel
        have hzl : (c.routes.zip ps).length = c.routes.length := by have := hC.out.rs.len; rw [List.length_zip]; omega
        have HZL := Lib.hid hzl
        clear hzl
        by_cases hlt : k < c.routes.length
        · obtain ⟨j, hj⟩ : ∃ j, c.routes.length - 1 - k = j := ⟨_, rfl⟩
          have hji : (c.routes.length : Int) - 1 - (k : Int) = (j : Int) := by omega
          have hjl : j < c.routes.length := by omega
          obtain ⟨r, hr⟩ : ∃ r, c.routes[j]? = some r := ⟨_, List.getElem?_eq_getElem hjl⟩
          obtain ⟨p, hp⟩ : ∃ p, ps[j]? = some p := ⟨_, List.getElem?_eq_getElem (by rw [hC.out.rs.len]; exact hjl)⟩
          have hzp : (c.routes.zip ps)[j]? = some (r, p) := (List.getElem?_zip_eq_some (z := (r, p))).2 ⟨hr, hp⟩
          have hrow : ((c.routes.zip ps).map (fun x => rtRow x.1 x.2.1 x.2.2))[j]? = some (rtRow r p.1 p.2) := by
            rw [List.getElem?_map, hzp]
            rfl
          have HTK := Lib.hid (show ((c.routes.zip ps).reverse.take (k + 1)).map rtF = ((c.routes.zip ps).reverse.take k).map rtF ++ [rtRow r p.1 p.2] from by rw [take_rev_succ (by rw [HZL.out, hj]; exact hzp) (by rw [HZL.out]; exact hlt), List.map_append]; rfl)
          have HRA := Lib.hid (hC.out.rs.each j r p hr hp)
          obtain ⟨p1, p2⟩ := p
          dsimp only at HRA hrow HTK
          obtain ⟨Am, cm, rfl⟩ := HRA.out.ms.form
          obtain ⟨Ah, ch, rfl⟩ := HRA.out.hs.form
          generalize hlm : (strRows r.m.methods).length = lm at *
          generalize hlh : (intRows r.hosts).length = lh at *
          clear hlm hlh
          obtain ⟨A4, cap4, e4, -, h4⟩ := hC.out.rs.tb
          injection e4 with e41 e42 e43
          subst e41
          obtain ⟨br, or, rfl, hbr, hx⟩ := h4 (by rw [HL2.out]; omega)
          have HCr := Lib.hid (HC.out.trans HCk.out (by simp))
          have HBr := Lib.hid (HB.out.chg HCk.out (by simp))
          have HLD : Hid ((loadVar 42 ⟨br, or + j * 21, none⟩).run Tryz.prog wr = .ok (.agg #[.string r.m.host, .string r.m.pre, .slice Am lm cm, .string r.m.header, .string r.m.value, .slice Ah lh ch, .int .i64 r.rate, .int .i64 r.per, .int .i64 r.burst, .int .i64 r.opn, .int .i64 r.fails, .int .i64 r.cool, .int .i64 r.probes, .int .i64 r.percent, .int .i64 r.min, .int .i64 r.window, .int .i64 r.retries, .int .i64 r.hedges, .int .i64 r.hedgeAfter, .int .i64 r.perTry, .int .i64 r.total]) wr) := Lib.hid (load_row 42 _ (rtRow r (.slice Am lm cm) (.slice Ah lh ch)) Tryz.underlying42 rfl (by kernel_rfl) (fun i x hj => HCr.out.cell (hx j _ hrow i x hj) (by simp)))
          have c1 := HBr.out.cell 1 _ rfl
          have htl : (((c.routes.zip ps).reverse.take k).map rtF).length ≤ 1048576 := by rw [List.length_map, List.length_take, List.length_reverse]; omega
          clear hx hrow hr hp hzp h4 e42 e43 hbr hj HRA
          generalize htk : ((c.routes.zip ps).reverse.take k).map rtF = tk at *
          clear htk
          obtain ⟨Av, cv, rfl⟩ := HO.out.form
          obtain ⟨v5, w5, hr, ho, hg⟩ := run_pushT 34 42 21 232 _ 34 Wm.heap.size (wr.alloc (.cells #[.string r.m.host, .string r.m.pre, .slice Am lm cm, .string r.m.header, .string r.m.value, .slice Ah lh ch, .int .i64 r.rate, .int .i64 r.per, .int .i64 r.burst, .int .i64 r.opn, .int .i64 r.fails, .int .i64 r.cool, .int .i64 r.probes, .int .i64 r.percent, .int .i64 r.min, .int .i64 r.window, .int .i64 r.retries, .int .i64 r.hedges, .int .i64 r.hedgeAfter, .int .i64 r.perTry, .int .i64 r.total] 42)) (.slice Av tk.length cv) tk (rtRow r (.slice Am lm cm) (.slice Ah lh ch)) wr.heap.size Tryz.underlying34 info42 rfl (by decide) (HO.out.chg ((Chg.refl [] wr).alloc _)) (Blk.new _ _ _) rfl (by simp [Value.oneCell', rtRow]) (by omega) (by omega) (by have := HCk.out.size; simp; omega)
          have HO5 := Lib.hid ho
          have HC5 := Lib.hid (Chg.grownOwn (HCk.out.alloc (.cells #[.string r.m.host, .string r.m.pre, .slice Am lm cm, .string r.m.header, .string r.m.value, .slice Ah lh ch, .int .i64 r.rate, .int .i64 r.per, .int .i64 r.burst, .int .i64 r.opn, .int .i64 r.fails, .int .i64 r.cool, .int .i64 r.probes, .int .i64 r.percent, .int .i64 r.min, .int .i64 r.window, .int .i64 r.retries, .int .i64 r.hedges, .int .i64 r.hedgeAfter, .int .i64 r.perTry, .int .i64 r.total] 42)) (HO.out.chg ((Chg.refl [] wr).alloc (.cells #[.string r.m.host, .string r.m.pre, .slice Am lm cm, .string r.m.header, .string r.m.value, .slice Ah lh ch, .int .i64 r.rate, .int .i64 r.per, .int .i64 r.burst, .int .i64 r.opn, .int .i64 r.fails, .int .i64 r.cool, .int .i64 r.probes, .int .i64 r.percent, .int .i64 r.min, .int .i64 r.window, .int .i64 r.retries, .int .i64 r.hedges, .int .i64 r.hedgeAfter, .int .i64 r.perTry, .int .i64 r.total] 42))) (Nat.le_refl _) hg)
          clear ho hg
          go_wp2_with (first | refine wpList_load_row rfl 42 _ rfl ⟨br, or + j * 21, none⟩ _ rfl HLD.out ?_ | (at_builtin; refine wpList_appT rfl 34 _ _ rfl _ _ rfl rfl v5 w5 hr ?_))
          go_roundw
          case rel => exact ⟨k + 1, by go_num, by omega, by rw [HTK.out]; exact HO5, HC5⟩
          case measure => simp [intOf]; omega
        · have hke : k = c.routes.length := by omega
          subst hke
          rw [← HZL.out, ← List.length_reverse, List.take_length] at HO
          have HB2 := Lib.hid (HB.out.chg HCk.out (by simp))
          have HC2 := Lib.hid (HC.out.trans HCk.out (by simp))
          have HT3 := Lib.hid ((HOh.out.chg HCk.out).tbl (by intro r hr; obtain ⟨x, -, rfl⟩ := List.mem_map.1 hr; rfl))
          have HT5 := Lib.hid (HO.out.tbl (by intro r hr; obtain ⟨x, -, rfl⟩ := List.mem_map.1 hr; rfl))
          obtain ⟨A5, cap5, rfl⟩ := HO.out.form
          have HBN5 := Lib.hid (show ∀ a, A5 = some a → a.block ≠ b from fun a ha => by
            have h1 := HO.out.own_lt a.block (by rw [ha]; rfl)
            have h2 := HBM.out
            omega)
          generalize hln5 : ((c.routes.zip ps).reverse.map rtF).length = ln5 at HT5 ⊢
          clear hln5 HO HOh HB HC HCk hk hlt
          generalize wr = Wx at *
          have HZT := Lib.hid (show rightB c.turned = z from by rw [right_turned, HZ.out])
          have HBT := Lib.hid (buf_turned c)
          obtain ⟨E, hEz⟩ : ∃ E, ok3 z = E := ⟨_, rfl⟩
          obtain ⟨NN, hNN⟩ : ∃ NN, okN z (bufN c) = NN := ⟨_, rfl⟩
          have HEZ := Lib.hid hEz
          have HNN := Lib.hid hNN
          clear hEz hNN
          have HL0 := Lib.hid (cf_load HB2.out)
          go_wp2_with (first | refine wpList_load_row rfl 36 _ rfl ⟨b, 0, none⟩ _ rfl HL0.out ?_ | refine wpList_load_want (by rfl) 36 _ rfl ⟨b, 0, none⟩ _ rfl HL0.out ?_)
          refine (check_any c _ _ ps _ (Lib.hid (hE.out.chg HC2.out)) (Lib.hid (hC.out.chg HC2.out)) hS z HZ.out).mono ?_
          rintro e W3 ⟨rfl, H3⟩
          rw [HEZ.out]
          have HB3 := Lib.hid (HB2.out.chg H3.out (by simp))
          have HC3 := Lib.hid (HC2.out.trans H3.out (by simp))
          have HT33 := Lib.hid (HT3.out.chg H3.out)
          have HT35 := Lib.hid (HT5.out.chg H3.out)
          clear HL0 HB2 HT3 HT5
          have HL0 := Lib.hid (cf_load HB3.out)
          go_wp2_with (first | refine wpList_load_row rfl 36 _ rfl ⟨b, 0, none⟩ _ rfl HL0.out ?_ | refine wpList_load_want (by rfl) 36 _ rfl ⟨b, 0, none⟩ _ rfl HL0.out ?_)
          refine (buf_any c _ _ ps _ (Lib.hid (hE.out.chg HC3.out)) (Lib.hid (hC.out.chg HC3.out)) hS z HZ.out).mono ?_
          rintro e W4 ⟨rfl, H4⟩
          rw [HEZ.out, HNN.out]
          have HB4 := Lib.hid (HB3.out.chg H4.out (by simp))
          have HC4 := Lib.hid (HC3.out.trans H4.out (by simp))
          have HT43 := Lib.hid (HT33.out.chg H4.out)
          have HT45 := Lib.hid (HT35.out.chg H4.out)
          clear HL0 HB3 HT33 HT35
          have c0 := HB4.out.cell 0 _ rfl
          have c1 := HB4.out.cell 1 _ rfl
          have f0 := HB4.out.free 0
          have f1 := HB4.out.free 1
          go_upto_region 17 with fail
          have HB5 : Hid (Blk ((W4.setCell ⟨b, 0, none⟩ (.slice A3 ln3 cap3)).setCell ⟨b, 1, none⟩ (.slice A5 ln5 cap5)) b (cfRow c.turned (.slice A3 ln3 cap3) (.slice A5 ln5 cap5)) 36) := Lib.hid ((HB4.out.set 0 (.slice A3 ln3 cap3)).set 1 (.slice A5 ln5 cap5))
          have HC5 := Lib.hid ((HC4.out.setCell (p := ⟨b, 0, none⟩) (by intro q; have := HBW.out; have : b < w.heap.size := q; omega) (.slice A3 ln3 cap3)).setCell (p := ⟨b, 1, none⟩) (by intro q; have := HBW.out; have : b < w.heap.size := q; omega) (.slice A5 ln5 cap5))
          have HX : Hid (CfAt ((W4.setCell ⟨b, 0, none⟩ (.slice A3 ln3 cap3)).setCell ⟨b, 1, none⟩ (.slice A5 ln5 cap5)) c.turned (.slice A3 ln3 cap3) (.slice A5 ln5 cap5) ps.reverse) := Lib.hid (turned_at hC.out HC5.out (tbl_set2 HT43.out HBN3.out) (tbl_set2 HT45.out HBN5.out))
          clear c0 c1 f0 f1
          generalize (W4.setCell ⟨b, 0, none⟩ (.slice A3 ln3 cap3)).setCell ⟨b, 1, none⟩ (.slice A5 ln5 cap5) = W5 at *
          have HL0 := Lib.hid (cf_load HB5.out)
          go_wp2_with (first | refine wpList_load_row rfl 36 _ rfl ⟨b, 0, none⟩ _ rfl HL0.out ?_ | refine wpList_load_want (by rfl) 36 _ rfl ⟨b, 0, none⟩ _ rfl HL0.out ?_)
          refine (buf_any c.turned _ _ ps.reverse _ (Lib.hid (hE.out.chg HC5.out)) HX (Lib.hid (turned_sz hS.out)) z HZT.out).mono ?_
          rintro e W6 ⟨rfl, H6⟩
          rw [HEZ.out, HBT.out, HNN.out]
          have HB6 := Lib.hid (HB5.out.chg H6.out (by simp))
          have HC6 := Lib.hid (HC5.out.trans H6.out (by simp))
          have HX6 := Lib.hid (HX.out.chg H6.out)
          clear HL0 HB5 HX
          have HL0 := Lib.hid (cf_load HB6.out)
          go_wp2_with (first | refine wpList_load_row rfl 36 _ rfl ⟨b, 0, none⟩ _ rfl HL0.out ?_ | refine wpList_load_want (by rfl) 36 _ rfl ⟨b, 0, none⟩ _ rfl HL0.out ?_)
          refine (check_any c.turned _ _ ps.reverse _ (Lib.hid (hE.out.chg HC6.out)) HX6 (Lib.hid (turned_sz hS.out)) z HZT.out).mono ?_
          rintro e W7 ⟨rfl, H7⟩
          rw [HEZ.out]
          have HC7 := Lib.hid (HC6.out.trans H7.out (by simp))
          go_wp2_with fail
          refine (cspeaks_any _ (Lib.hid (hE.out.chg HC7.out))).mono ?_
          rintro e W8 ⟨rfl, H8⟩
          go_wp2_with fail
          go_ret
          exact ⟨rfl, HC7.out.trans H8.out (by simp)⟩
end Go.Proofs.YtjndgkbikhndoaaGreatDoor
