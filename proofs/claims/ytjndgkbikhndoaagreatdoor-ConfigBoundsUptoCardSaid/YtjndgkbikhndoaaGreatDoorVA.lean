/- Layer 13 (config), the program: Conns, Buffered. -/
import Derived.Test.YtjndgkbikhndoaaGreatDoorVZ
import Derived.Deep.RegionHeld3
namespace Go.Proofs.YtjndgkbikhndoaaGreatDoor
open Go.RowKit Go.ChangeShapes Go.WideShapes
set_option linter.unusedVariables false
set_option linter.unusedSimpArgs false

/-- A row is read whole, under what holds meanwhile. -/
theorem yields_row {ops : Array Oper} {S : World → Prop} {op : Oper} {a : Go.Act} (hw : Region.wanted op (yielded ops a.tmps) = true) (T : TypeId) (x : Operand) (ho : op.op = .load T x) (p : Addr) (v : Value)
    (hx : a.eval x = .pointer (some p)) (hS : ∀ w, S w → (loadVar T p).run Tryz.prog w = .ok v w) : YieldsIf Tryz.prog ops S op v a :=
  .inl ⟨hw, fun w hw' => by
    unfold execOp
    simp only [ho, hx, Instr.loadAt, Instr.sureAddr, Sem.run_bind, Sem.run_pure, Result.andThen_ok, hS w hw']⟩
set_option maxHeartbeats 8000000 in
set_option maxRecDepth 100000 in
theorem conns_any (c : Cf) (hv rv : Value) (ps : List (Value × Value)) (w : World) (hE : Hid (Env w)) (hC : Hid (CfAt w c hv rv ps)) (hS : Hid (CfSz c)) (z : Bool) (hz : rightB c = z) :
    Calls Tryz.prog 20 #[.agg (cfRow c hv rv).toArray] w fun e w' => e = .returned (.tuple #[.int .i64 (okN z (connsN c)), .int .i64 (ok3 z)]) ∧ Hid (Chg [] w w') := by
  have hl1 : (c.hosts.map htRow).length = c.hosts.length := List.length_map _
  obtain ⟨A, cap, rfl⟩ := hC.out.hs.form
  obtain ⟨A2, cap2, rfl⟩ := hC.out.rs.tb.form
  rw [hl1] at hC ⊢
  generalize hl2 : ((c.routes.zip ps).map (fun x => rtRow x.1 x.2.1 x.2.2)).length = ln2 at *
  clear hl2
  obtain ⟨rv0, hrv⟩ : ∃ rv0, Value.slice A2 ln2 cap2 = rv0 := ⟨_, rfl⟩
  have HRV := Lib.hid hrv
  clear hrv
  have HCK := Lib.hid (fun W (hc : Hid (Chg [] w W)) => check_any c (.slice A c.hosts.length cap) (.slice A2 ln2 cap2) ps W (Lib.hid (hE.out.chg hc.out)) (Lib.hid (hC.out.chg hc.out)) hS z hz)
  have HB0 := Lib.hid (Blk.new w (cfRow c (.slice A c.hosts.length cap) (.slice A2 ln2 cap2)) 36)
  have HC0 := Lib.hid ((Chg.refl [] w).alloc (.cells (cfRow c (.slice A c.hosts.length cap) (.slice A2 ln2 cap2)).toArray 36))
  have HRG := Lib.hid (fun h : z = true => rgt_of (hz.trans h))
  clear hl1 hz
  change Calls Tryz.prog 20 #[.agg #[.slice A c.hosts.length cap, .slice A2 ln2 cap2, .int .i64 c.every, .int .i64 c.timeout, .int .i64 c.up, .int .i64 c.down, .string c.path, .int .i64 c.fails, .int .i64 c.base, .int .i64 c.longest, .int .i64 c.share, .int .i64 c.maxHead, .int .i64 c.maxBody, .int .i64 c.maxOut, .int .i64 c.headTime, .int .i64 c.idle, .int .i64 c.life, .int .i64 c.clients]] w _
  go_enter Tryz.func20, Tryz.ntmps20
  go_upto_region 1 with fail
  change Hid (Blk (w.alloc (.cells #[.slice A c.hosts.length cap, .slice A2 ln2 cap2, .int .i64 c.every, .int .i64 c.timeout, .int .i64 c.up, .int .i64 c.down, .string c.path, .int .i64 c.fails, .int .i64 c.base, .int .i64 c.longest, .int .i64 c.share, .int .i64 c.maxHead, .int .i64 c.maxBody, .int .i64 c.maxOut, .int .i64 c.headTime, .int .i64 c.idle, .int .i64 c.life, .int .i64 c.clients] 36)) _ _ _) at HB0
  change Hid (Chg [] w (w.alloc (.cells #[.slice A c.hosts.length cap, .slice A2 ln2 cap2, .int .i64 c.every, .int .i64 c.timeout, .int .i64 c.up, .int .i64 c.down, .string c.path, .int .i64 c.fails, .int .i64 c.base, .int .i64 c.longest, .int .i64 c.share, .int .i64 c.maxHead, .int .i64 c.maxBody, .int .i64 c.maxOut, .int .i64 c.headTime, .int .i64 c.idle, .int .i64 c.life, .int .i64 c.clients] 36))) at HC0
  generalize w.alloc (.cells #[.slice A c.hosts.length cap, .slice A2 ln2 cap2, .int .i64 c.every, .int .i64 c.timeout, .int .i64 c.up, .int .i64 c.down, .string c.path, .int .i64 c.fails, .int .i64 c.base, .int .i64 c.longest, .int .i64 c.share, .int .i64 c.maxHead, .int .i64 c.maxBody, .int .i64 c.maxOut, .int .i64 c.headTime, .int .i64 c.idle, .int .i64 c.life, .int .i64 c.clients] 36) = W1 at HB0 HC0 ⊢
  generalize w.heap.size = b at HB0 ⊢
  have HLD := Lib.hid (load_row 36 _ (cfRow c (.slice A c.hosts.length cap) (.slice A2 ln2 cap2)) Tryz.underlying36 rfl (by kernel_rfl) (fun j x hj => by rw [Nat.zero_add]; exact HB0.out.cell j x hj))
  go_wp2_with (refine wpList_load_row rfl 36 _ rfl ⟨b, 0, none⟩ _ rfl HLD.out ?_)
  refine (HCK.out _ HC0).mono ?_
  rintro e W2 ⟨rfl, H2⟩
  have HB := Lib.hid (HB0.out.chg H2.out (by simp))
  have HC := Lib.hid (HC0.out.trans H2.out (by simp))
  cases z
  · rw [show ok3 false = 3 from rfl]
    go_wp2_with fail
    go_ret2
    exact ⟨rfl, HC.out⟩
  · rw [show ok3 true = 0 from rfl]
    have hR := HRG.out rfl
    have hn := hR.nums
    have hcn := hR.capsN
    have h16 := hR.h2
    have HT := Lib.hid (show HtsAt W2 c (.slice A c.hosts.length cap) from ⟨hC.out.hs.chg HC.out, hR.h2, hR.caps⟩)
    have HCN := Lib.hid (show connsN c = c.clients + capsN c + c.hosts.length from rfl)
    obtain ⟨K, hK⟩ : ∃ K, capsN c = K := ⟨_, rfl⟩
    rw [hK] at hcn
    have HKK := Lib.hid hK
    have hw1 : IntKind.i64.wrap (c.clients + K) = c.clients + K := wrap_in (by omega) (by omega)
    have hw2 : IntKind.i64.wrap (c.clients + K + (c.hosts.length : Int)) = c.clients + K + (c.hosts.length : Int) := wrap_in (by omega) (by omega)
    clear hK hR hn hcn
    go_wp2_with fail
    refine wp_region_held_drew (S := fun W => Hid (Blk W b (cfRow c (.slice A c.hosts.length cap) (.slice A2 ln2 cap2)) 36)) (by kernel_rfl) (Lib.hid (HB.out.chg (Chg.refl [] _).drew (by simp))) (fun hHeld => ?_)
    refine wpAnyH_take (i := 0) (oi := ?oi0) (v := (.pointer (some ⟨b, 17, none⟩))) ?hi0 (by kernel_rfl) (by kernel_rfl) (by kernel_rfl) ?hQ0 ?hy0 hHeld ?rest0
    case hi0 =>
      simp only [List.getElem?_toArray, List.getElem?_cons_zero]
      rfl
    case hQ0 => exact fun _ _ _ h => h
    case hy0 =>
      refine Or.inl ⟨by rfl, ?_⟩
      intro w hSw
      go_simp
    try simp only [Act.put, List.setIfInBounds_toArray, List.set_cons_zero, List.set_cons_succ]
    refine wpAnyH_take (i := 1) (oi := ?oi1) (v := (.int .i64 c.clients)) ?hi1 (by kernel_rfl) (by kernel_rfl) (by kernel_rfl) ?hQ1 ?hy1 hHeld ?rest1
    case hi1 =>
      simp only [List.getElem?_toArray, List.getElem?_cons_succ, List.getElem?_cons_zero]
      rfl
    case hQ1 => exact fun _ _ _ h => h
    case hy1 =>
      refine Or.inl ⟨by rfl, ?_⟩
      intro w hSw
      have hcc := hSw.out.cell 17 _ rfl
      go_simp
    try simp only [Act.put, List.setIfInBounds_toArray, List.set_cons_zero, List.set_cons_succ]
    refine wpAnyH_take (i := 2) (oi := ?oi2) (v := .agg (cfRow c (.slice A c.hosts.length cap) (.slice A2 ln2 cap2)).toArray) ?hi2 (by kernel_rfl) (by kernel_rfl) (by kernel_rfl) ?hQ2 ?hy2 hHeld ?rest2
    case hi2 =>
      simp only [List.getElem?_toArray, List.getElem?_cons_succ, List.getElem?_cons_zero]
      rfl
    case hQ2 => exact fun _ _ _ h => h
    case hy2 =>
      exact yields_row (by rfl) 36 _ rfl ⟨b, 0, none⟩ _ rfl (fun w hSw => load_row 36 _ (cfRow c (.slice A c.hosts.length cap) (.slice A2 ln2 cap2)) Tryz.underlying36 rfl (by kernel_rfl) (fun j x hj => by rw [Nat.zero_add]; exact hSw.out.cell j x hj))
    try simp only [Act.put, List.setIfInBounds_toArray, List.set_cons_zero, List.set_cons_succ]
    refine wpAnyH_take (i := 5) (oi := ?oi5) (v := (.pointer (some ⟨b, 0, none⟩))) ?hi5 (by kernel_rfl) (by kernel_rfl) (by kernel_rfl) ?hQ5 ?hy5 hHeld ?rest5
    case hi5 =>
      simp only [List.getElem?_toArray, List.getElem?_cons_succ, List.getElem?_cons_zero]
      rfl
    case hQ5 => exact fun _ _ _ h => h
    case hy5 =>
      refine Or.inl ⟨by rfl, ?_⟩
      intro w hSw
      go_simp
    try simp only [Act.put, List.setIfInBounds_toArray, List.set_cons_zero, List.set_cons_succ]
    refine wpAnyH_take (i := 6) (oi := ?oi6) (v := (.slice A c.hosts.length cap)) ?hi6 (by kernel_rfl) (by kernel_rfl) (by kernel_rfl) ?hQ6 ?hy6 hHeld ?rest6
    case hi6 =>
      simp only [List.getElem?_toArray, List.getElem?_cons_succ, List.getElem?_cons_zero]
      rfl
    case hQ6 => exact fun _ _ _ h => h
    case hy6 =>
      refine Or.inl ⟨by rfl, ?_⟩
      intro w hSw
      have hcc := hSw.out.cell 0 _ rfl
      go_simp
    try simp only [Act.put, List.setIfInBounds_toArray, List.set_cons_zero, List.set_cons_succ]
    refine wpAnyH_take (i := 7) (oi := ?oi7) (v := (.int .i64 (c.hosts.length : Int))) ?hi7 (by kernel_rfl) (by kernel_rfl) (by kernel_rfl) ?hQ7 ?hy7 hHeld ?rest7
    case hi7 =>
      simp only [List.getElem?_toArray, List.getElem?_cons_succ, List.getElem?_cons_zero]
      rfl
    case hQ7 => exact fun _ _ _ h => h
    case hy7 =>
      refine Or.inl ⟨by rfl, ?_⟩
      intro w hSw
      go_simp
    try simp only [Act.put, List.setIfInBounds_toArray, List.set_cons_zero, List.set_cons_succ]
    refine wpAnyH_ready (rs := [3]) (by kernel_rfl) (by simp) ?_
    refine AllReadyH.cons rfl (fun K hK => ?_) AllReadyH.nil
    go_simp
    refine (caps_any c (.slice A c.hosts.length cap) (.slice A2 ln2 cap2) _ (Lib.hid (HT.out.chg (Chg.refl [] _).drew))).mono ?_
    rintro e w3 ⟨rfl, H3⟩
    have HCD := Lib.hid (HC.out.drew.trans H3.out (by simp))
    have HBD := Lib.hid ((HB.out.chg (Chg.refl [] _).drew (by simp)).chg H3.out (by simp))
    rw [HKK.out]
    go_wp2_with fail
    refine hK.out _ _ HBD (fun hHeld => ?_)
    clear hK K
    try simp only [Act.put, List.setIfInBounds_toArray, List.set_cons_zero, List.set_cons_succ]
    refine wpAnyH_take (i := 4) (oi := ?oi4) (v := (.int .i64 (c.clients + K))) ?hi4 (by kernel_rfl) (by kernel_rfl) (by kernel_rfl) ?hQ4 ?hy4 hHeld ?rest4
    case hi4 =>
      simp only [List.getElem?_toArray, List.getElem?_cons_succ, List.getElem?_cons_zero]
      rfl
    case hQ4 => exact fun _ _ _ h => h
    case hy4 =>
      refine Or.inl ⟨by rfl, ?_⟩
      intro w hSw
      go_simp
    try simp only [Act.put, List.setIfInBounds_toArray, List.set_cons_zero, List.set_cons_succ]
    refine wpAnyH_take (i := 8) (oi := ?oi8) (v := (.int .i64 (c.clients + K + (c.hosts.length : Int)))) ?hi8 (by kernel_rfl) (by kernel_rfl) (by kernel_rfl) ?hQ8 ?hy8 hHeld ?rest8
    case hi8 =>
      simp only [List.getElem?_toArray, List.getElem?_cons_succ, List.getElem?_cons_zero]
      rfl
    case hQ8 => exact fun _ _ _ h => h
    case hy8 =>
      refine Or.inl ⟨by rfl, ?_⟩
      intro w hSw
      go_simp
    try simp only [Act.put, List.setIfInBounds_toArray, List.set_cons_zero, List.set_cons_succ]
    refine wpAnyH_take (i := 9) (oi := ?oi9) (v := (.int .i64 (c.clients + K + (c.hosts.length : Int)))) ?hi9 (by kernel_rfl) (by kernel_rfl) (by kernel_rfl) ?hQ9 ?hy9 hHeld ?rest9
    case hi9 =>
      simp only [List.getElem?_toArray, List.getElem?_cons_succ, List.getElem?_cons_zero]
      rfl
    case hQ9 => exact fun _ _ _ h => h
    case hy9 =>
      refine Or.inl ⟨by rfl, ?_⟩
      intro w hSw
      go_simp
    try simp only [Act.put, List.setIfInBounds_toArray, List.set_cons_zero, List.set_cons_succ]
    refine wpAnyH_take (i := 10) (oi := ?oi10) (v := (.int .i64 0)) ?hi10 (by kernel_rfl) (by kernel_rfl) (by kernel_rfl) ?hQ10 ?hy10 hHeld ?rest10
    case hi10 =>
      simp only [List.getElem?_toArray, List.getElem?_cons_succ, List.getElem?_cons_zero]
      rfl
    case hQ10 => exact fun _ _ _ h => h
    case hy10 =>
      refine Or.inl ⟨by rfl, ?_⟩
      intro w hSw
      go_simp
    try simp only [Act.put, List.setIfInBounds_toArray, List.set_cons_zero, List.set_cons_succ]
    refine wpAnyH_done (by kernel_rfl) ?_ _
    go_wp2_with fail
    go_ret2
    refine ⟨?_, HCD.out⟩
    rw [HCN.out, HKK.out]
    rfl
theorem mul_bd {a b m n : Int} (a0 : 0 ≤ a) (a1 : a ≤ m) (b0 : 0 ≤ b) (b1 : b ≤ n) : 0 ≤ a * b ∧ a * b ≤ m * n :=
  ⟨Int.mul_nonneg a0 b0, Int.le_trans (Int.mul_le_mul_of_nonneg_right a1 b0) (Int.mul_le_mul_of_nonneg_left b1 (Int.le_trans a0 a1))⟩
set_option maxHeartbeats 8000000 in
set_option maxRecDepth 100000 in
theorem buf_any (c : Cf) (hv rv : Value) (ps : List (Value × Value)) (w : World) (hE : Hid (Env w)) (hC : Hid (CfAt w c hv rv ps)) (hS : Hid (CfSz c)) (z : Bool) (hz : rightB c = z) :
    Calls Tryz.prog 19 #[.agg (cfRow c hv rv).toArray] w fun e w' => e = .returned (.tuple #[.int .i64 (okN z (bufN c)), .int .i64 (ok3 z)]) ∧ Hid (Chg [] w w') := by
  have hl1 : (c.hosts.map htRow).length = c.hosts.length := List.length_map _
  obtain ⟨A, cap, rfl⟩ := hC.out.hs.form
  obtain ⟨A2, cap2, rfl⟩ := hC.out.rs.tb.form
  rw [hl1] at hC ⊢
  generalize hl2 : ((c.routes.zip ps).map (fun x => rtRow x.1 x.2.1 x.2.2)).length = ln2 at *
  clear hl2
  obtain ⟨rv0, hrv⟩ : ∃ rv0, Value.slice A2 ln2 cap2 = rv0 := ⟨_, rfl⟩
  have HRV := Lib.hid hrv
  clear hrv
  have HCK := Lib.hid (fun W (hc : Hid (Chg [] w W)) => check_any c (.slice A c.hosts.length cap) (.slice A2 ln2 cap2) ps W (Lib.hid (hE.out.chg hc.out)) (Lib.hid (hC.out.chg hc.out)) hS z hz)
  have HB0 := Lib.hid (Blk.new w (cfRow c (.slice A c.hosts.length cap) (.slice A2 ln2 cap2)) 36)
  have HC0 := Lib.hid ((Chg.refl [] w).alloc (.cells (cfRow c (.slice A c.hosts.length cap) (.slice A2 ln2 cap2)).toArray 36))
  have HRG := Lib.hid (fun h : z = true => rgt_of (hz.trans h))
  clear hl1 hz
  change Calls Tryz.prog 19 #[.agg #[.slice A c.hosts.length cap, .slice A2 ln2 cap2, .int .i64 c.every, .int .i64 c.timeout, .int .i64 c.up, .int .i64 c.down, .string c.path, .int .i64 c.fails, .int .i64 c.base, .int .i64 c.longest, .int .i64 c.share, .int .i64 c.maxHead, .int .i64 c.maxBody, .int .i64 c.maxOut, .int .i64 c.headTime, .int .i64 c.idle, .int .i64 c.life, .int .i64 c.clients]] w _
  go_enter Tryz.func19, Tryz.ntmps19
  go_upto_region 1 with fail
  change Hid (Blk (w.alloc (.cells #[.slice A c.hosts.length cap, .slice A2 ln2 cap2, .int .i64 c.every, .int .i64 c.timeout, .int .i64 c.up, .int .i64 c.down, .string c.path, .int .i64 c.fails, .int .i64 c.base, .int .i64 c.longest, .int .i64 c.share, .int .i64 c.maxHead, .int .i64 c.maxBody, .int .i64 c.maxOut, .int .i64 c.headTime, .int .i64 c.idle, .int .i64 c.life, .int .i64 c.clients] 36)) _ _ _) at HB0
  change Hid (Chg [] w (w.alloc (.cells #[.slice A c.hosts.length cap, .slice A2 ln2 cap2, .int .i64 c.every, .int .i64 c.timeout, .int .i64 c.up, .int .i64 c.down, .string c.path, .int .i64 c.fails, .int .i64 c.base, .int .i64 c.longest, .int .i64 c.share, .int .i64 c.maxHead, .int .i64 c.maxBody, .int .i64 c.maxOut, .int .i64 c.headTime, .int .i64 c.idle, .int .i64 c.life, .int .i64 c.clients] 36))) at HC0
  generalize w.alloc (.cells #[.slice A c.hosts.length cap, .slice A2 ln2 cap2, .int .i64 c.every, .int .i64 c.timeout, .int .i64 c.up, .int .i64 c.down, .string c.path, .int .i64 c.fails, .int .i64 c.base, .int .i64 c.longest, .int .i64 c.share, .int .i64 c.maxHead, .int .i64 c.maxBody, .int .i64 c.maxOut, .int .i64 c.headTime, .int .i64 c.idle, .int .i64 c.life, .int .i64 c.clients] 36) = W1 at HB0 HC0 ⊢
  generalize w.heap.size = b at HB0 ⊢
  have HLD := Lib.hid (load_row 36 _ (cfRow c (.slice A c.hosts.length cap) (.slice A2 ln2 cap2)) Tryz.underlying36 rfl (by kernel_rfl) (fun j x hj => by rw [Nat.zero_add]; exact HB0.out.cell j x hj))
  go_wp2_with (refine wpList_load_row rfl 36 _ rfl ⟨b, 0, none⟩ _ rfl HLD.out ?_)
  refine (HCK.out _ HC0).mono ?_
  rintro e W2 ⟨rfl, H2⟩
  have HB := Lib.hid (HB0.out.chg H2.out (by simp))
  have HC := Lib.hid (HC0.out.trans H2.out (by simp))
  cases z
  · rw [show ok3 false = 3 from rfl]
    go_wp2_with fail
    go_ret2
    exact ⟨rfl, HC.out⟩
  · rw [show ok3 true = 0 from rfl]
    have hR := HRG.out rfl
    have hn := hR.nums
    have hcn := hR.capsN
    have h16 := hR.h2
    have HT := Lib.hid (show HtsAt W2 c (.slice A c.hosts.length cap) from ⟨hC.out.hs.chg HC.out, hR.h2, hR.caps⟩)
    have HCN := Lib.hid (show bufN c = c.clients * (2 * c.maxHead + c.maxBody + c.maxOut + 8192) + capsN c * (c.maxHead + c.maxBody + 8192) from rfl)
    obtain ⟨K, hK⟩ : ∃ K, capsN c = K := ⟨_, rfl⟩
    rw [hK] at hcn
    have HKK := Lib.hid hK
    have hm1 := mul_bd (a := c.clients) (b := (2 * c.maxHead + c.maxBody + c.maxOut + 8192)) (m := 256) (n := 3000000) (by omega) (by omega) (by omega) (by omega)
    have hm2 := mul_bd (a := K) (b := (c.maxHead + c.maxBody + 8192)) (m := 1024) (n := 3000000) (by omega) (by omega) (by omega) (by omega)
    have hw1 : IntKind.i64.wrap (2 * c.maxHead) = 2 * c.maxHead := wrap_in (by omega) (by omega)
    have hw2 : IntKind.i64.wrap (2 * c.maxHead + c.maxBody) = 2 * c.maxHead + c.maxBody := wrap_in (by omega) (by omega)
    have hw3 : IntKind.i64.wrap (2 * c.maxHead + c.maxBody + c.maxOut) = 2 * c.maxHead + c.maxBody + c.maxOut := wrap_in (by omega) (by omega)
    have hw4 : IntKind.i64.wrap (2 * c.maxHead + c.maxBody + c.maxOut + 8192) = (2 * c.maxHead + c.maxBody + c.maxOut + 8192) := wrap_in (by omega) (by omega)
    have hw5 : IntKind.i64.wrap (c.clients * (2 * c.maxHead + c.maxBody + c.maxOut + 8192)) = c.clients * (2 * c.maxHead + c.maxBody + c.maxOut + 8192) := wrap_in (by omega) (by omega)
    have hw6 : IntKind.i64.wrap (c.maxHead + c.maxBody) = c.maxHead + c.maxBody := wrap_in (by omega) (by omega)
    have hw7 : IntKind.i64.wrap (c.maxHead + c.maxBody + 8192) = (c.maxHead + c.maxBody + 8192) := wrap_in (by omega) (by omega)
    have hw8 : IntKind.i64.wrap (K * (c.maxHead + c.maxBody + 8192)) = K * (c.maxHead + c.maxBody + 8192) := wrap_in (by omega) (by omega)
    have hw9 : IntKind.i64.wrap (c.clients * (2 * c.maxHead + c.maxBody + c.maxOut + 8192) + K * (c.maxHead + c.maxBody + 8192)) = c.clients * (2 * c.maxHead + c.maxBody + c.maxOut + 8192) + K * (c.maxHead + c.maxBody + 8192) := wrap_in (by omega) (by omega)
    clear hK hR hn hcn hm1 hm2
    go_wp2_with fail
    refine wp_region_held_drew (S := fun W => Hid (Blk W b (cfRow c (.slice A c.hosts.length cap) (.slice A2 ln2 cap2)) 36)) (by kernel_rfl) (Lib.hid (HB.out.chg (Chg.refl [] _).drew (by simp))) (fun hHeld => ?_)
    refine wpAnyH_take (i := 0) (oi := ?oi0) (v := (.pointer (some ⟨b, 17, none⟩))) ?hi0 (by kernel_rfl) (by kernel_rfl) (by kernel_rfl) ?hQ0 ?hy0 hHeld ?rest0
    case hi0 =>
      simp only [List.getElem?_toArray, List.getElem?_cons_zero]
      rfl
    case hQ0 => exact fun _ _ _ h => h
    case hy0 =>
      refine Or.inl ⟨by rfl, ?_⟩
      intro w hSw
      go_simp
    try simp only [Act.put, List.setIfInBounds_toArray, List.set_cons_zero, List.set_cons_succ]
    refine wpAnyH_take (i := 1) (oi := ?oi1) (v := (.int .i64 c.clients)) ?hi1 (by kernel_rfl) (by kernel_rfl) (by kernel_rfl) ?hQ1 ?hy1 hHeld ?rest1
    case hi1 =>
      simp only [List.getElem?_toArray, List.getElem?_cons_succ, List.getElem?_cons_zero]
      rfl
    case hQ1 => exact fun _ _ _ h => h
    case hy1 =>
      refine Or.inl ⟨by rfl, ?_⟩
      intro w hSw
      have hcc := hSw.out.cell 17 _ rfl
      go_simp
    try simp only [Act.put, List.setIfInBounds_toArray, List.set_cons_zero, List.set_cons_succ]
    refine wpAnyH_take (i := 2) (oi := ?oi2) (v := (.pointer (some ⟨b, 11, none⟩))) ?hi2 (by kernel_rfl) (by kernel_rfl) (by kernel_rfl) ?hQ2 ?hy2 hHeld ?rest2
    case hi2 =>
      simp only [List.getElem?_toArray, List.getElem?_cons_succ, List.getElem?_cons_zero]
      rfl
    case hQ2 => exact fun _ _ _ h => h
    case hy2 =>
      refine Or.inl ⟨by rfl, ?_⟩
      intro w hSw
      go_simp
    try simp only [Act.put, List.setIfInBounds_toArray, List.set_cons_zero, List.set_cons_succ]
    refine wpAnyH_take (i := 3) (oi := ?oi3) (v := (.int .i64 c.maxHead)) ?hi3 (by kernel_rfl) (by kernel_rfl) (by kernel_rfl) ?hQ3 ?hy3 hHeld ?rest3
    case hi3 =>
      simp only [List.getElem?_toArray, List.getElem?_cons_succ, List.getElem?_cons_zero]
      rfl
    case hQ3 => exact fun _ _ _ h => h
    case hy3 =>
      refine Or.inl ⟨by rfl, ?_⟩
      intro w hSw
      have hcc := hSw.out.cell 11 _ rfl
      go_simp
    try simp only [Act.put, List.setIfInBounds_toArray, List.set_cons_zero, List.set_cons_succ]
    refine wpAnyH_take (i := 4) (oi := ?oi4) (v := (.int .i64 (2 * c.maxHead))) ?hi4 (by kernel_rfl) (by kernel_rfl) (by kernel_rfl) ?hQ4 ?hy4 hHeld ?rest4
    case hi4 =>
      simp only [List.getElem?_toArray, List.getElem?_cons_succ, List.getElem?_cons_zero]
      rfl
    case hQ4 => exact fun _ _ _ h => h
    case hy4 =>
      refine Or.inl ⟨by rfl, ?_⟩
      intro w hSw
      go_simp
    try simp only [Act.put, List.setIfInBounds_toArray, List.set_cons_zero, List.set_cons_succ]
    refine wpAnyH_take (i := 5) (oi := ?oi5) (v := (.pointer (some ⟨b, 12, none⟩))) ?hi5 (by kernel_rfl) (by kernel_rfl) (by kernel_rfl) ?hQ5 ?hy5 hHeld ?rest5
    case hi5 =>
      simp only [List.getElem?_toArray, List.getElem?_cons_succ, List.getElem?_cons_zero]
      rfl
    case hQ5 => exact fun _ _ _ h => h
    case hy5 =>
      refine Or.inl ⟨by rfl, ?_⟩
      intro w hSw
      go_simp
    try simp only [Act.put, List.setIfInBounds_toArray, List.set_cons_zero, List.set_cons_succ]
    refine wpAnyH_take (i := 6) (oi := ?oi6) (v := (.int .i64 c.maxBody)) ?hi6 (by kernel_rfl) (by kernel_rfl) (by kernel_rfl) ?hQ6 ?hy6 hHeld ?rest6
    case hi6 =>
      simp only [List.getElem?_toArray, List.getElem?_cons_succ, List.getElem?_cons_zero]
      rfl
    case hQ6 => exact fun _ _ _ h => h
    case hy6 =>
      refine Or.inl ⟨by rfl, ?_⟩
      intro w hSw
      have hcc := hSw.out.cell 12 _ rfl
      go_simp
    try simp only [Act.put, List.setIfInBounds_toArray, List.set_cons_zero, List.set_cons_succ]
    refine wpAnyH_take (i := 7) (oi := ?oi7) (v := (.int .i64 (2 * c.maxHead + c.maxBody))) ?hi7 (by kernel_rfl) (by kernel_rfl) (by kernel_rfl) ?hQ7 ?hy7 hHeld ?rest7
    case hi7 =>
      simp only [List.getElem?_toArray, List.getElem?_cons_succ, List.getElem?_cons_zero]
      rfl
    case hQ7 => exact fun _ _ _ h => h
    case hy7 =>
      refine Or.inl ⟨by rfl, ?_⟩
      intro w hSw
      go_simp
    try simp only [Act.put, List.setIfInBounds_toArray, List.set_cons_zero, List.set_cons_succ]
    refine wpAnyH_take (i := 8) (oi := ?oi8) (v := (.pointer (some ⟨b, 13, none⟩))) ?hi8 (by kernel_rfl) (by kernel_rfl) (by kernel_rfl) ?hQ8 ?hy8 hHeld ?rest8
    case hi8 =>
      simp only [List.getElem?_toArray, List.getElem?_cons_succ, List.getElem?_cons_zero]
      rfl
    case hQ8 => exact fun _ _ _ h => h
    case hy8 =>
      refine Or.inl ⟨by rfl, ?_⟩
      intro w hSw
      go_simp
    try simp only [Act.put, List.setIfInBounds_toArray, List.set_cons_zero, List.set_cons_succ]
    refine wpAnyH_take (i := 9) (oi := ?oi9) (v := (.int .i64 c.maxOut)) ?hi9 (by kernel_rfl) (by kernel_rfl) (by kernel_rfl) ?hQ9 ?hy9 hHeld ?rest9
    case hi9 =>
      simp only [List.getElem?_toArray, List.getElem?_cons_succ, List.getElem?_cons_zero]
      rfl
    case hQ9 => exact fun _ _ _ h => h
    case hy9 =>
      refine Or.inl ⟨by rfl, ?_⟩
      intro w hSw
      have hcc := hSw.out.cell 13 _ rfl
      go_simp
    try simp only [Act.put, List.setIfInBounds_toArray, List.set_cons_zero, List.set_cons_succ]
    refine wpAnyH_take (i := 10) (oi := ?oi10) (v := (.int .i64 (2 * c.maxHead + c.maxBody + c.maxOut))) ?hi10 (by kernel_rfl) (by kernel_rfl) (by kernel_rfl) ?hQ10 ?hy10 hHeld ?rest10
    case hi10 =>
      simp only [List.getElem?_toArray, List.getElem?_cons_succ, List.getElem?_cons_zero]
      rfl
    case hQ10 => exact fun _ _ _ h => h
    case hy10 =>
      refine Or.inl ⟨by rfl, ?_⟩
      intro w hSw
      go_simp
    try simp only [Act.put, List.setIfInBounds_toArray, List.set_cons_zero, List.set_cons_succ]
    refine wpAnyH_take (i := 11) (oi := ?oi11) (v := (.int .i64 (2 * c.maxHead + c.maxBody + c.maxOut + 8192))) ?hi11 (by kernel_rfl) (by kernel_rfl) (by kernel_rfl) ?hQ11 ?hy11 hHeld ?rest11
    case hi11 =>
      simp only [List.getElem?_toArray, List.getElem?_cons_succ, List.getElem?_cons_zero]
      rfl
    case hQ11 => exact fun _ _ _ h => h
    case hy11 =>
      refine Or.inl ⟨by rfl, ?_⟩
      intro w hSw
      go_simp
    try simp only [Act.put, List.setIfInBounds_toArray, List.set_cons_zero, List.set_cons_succ]
    refine wpAnyH_take (i := 12) (oi := ?oi12) (v := (.int .i64 (c.clients * (2 * c.maxHead + c.maxBody + c.maxOut + 8192)))) ?hi12 (by kernel_rfl) (by kernel_rfl) (by kernel_rfl) ?hQ12 ?hy12 hHeld ?rest12
    case hi12 =>
      simp only [List.getElem?_toArray, List.getElem?_cons_succ, List.getElem?_cons_zero]
      rfl
    case hQ12 => exact fun _ _ _ h => h
    case hy12 =>
      refine Or.inl ⟨by rfl, ?_⟩
      intro w hSw
      go_simp
    try simp only [Act.put, List.setIfInBounds_toArray, List.set_cons_zero, List.set_cons_succ]
    refine wpAnyH_take (i := 13) (oi := ?oi13) (v := .agg (cfRow c (.slice A c.hosts.length cap) (.slice A2 ln2 cap2)).toArray) ?hi13 (by kernel_rfl) (by kernel_rfl) (by kernel_rfl) ?hQ13 ?hy13 hHeld ?rest13
    case hi13 =>
      simp only [List.getElem?_toArray, List.getElem?_cons_succ, List.getElem?_cons_zero]
      rfl
    case hQ13 => exact fun _ _ _ h => h
    case hy13 =>
      exact yields_row (by rfl) 36 _ rfl ⟨b, 0, none⟩ _ rfl (fun w hSw => load_row 36 _ (cfRow c (.slice A c.hosts.length cap) (.slice A2 ln2 cap2)) Tryz.underlying36 rfl (by kernel_rfl) (fun j x hj => by rw [Nat.zero_add]; exact hSw.out.cell j x hj))
    try simp only [Act.put, List.setIfInBounds_toArray, List.set_cons_zero, List.set_cons_succ]
    refine wpAnyH_take (i := 15) (oi := ?oi15) (v := (.pointer (some ⟨b, 11, none⟩))) ?hi15 (by kernel_rfl) (by kernel_rfl) (by kernel_rfl) ?hQ15 ?hy15 hHeld ?rest15
    case hi15 =>
      simp only [List.getElem?_toArray, List.getElem?_cons_succ, List.getElem?_cons_zero]
      rfl
    case hQ15 => exact fun _ _ _ h => h
    case hy15 =>
      refine Or.inl ⟨by rfl, ?_⟩
      intro w hSw
      go_simp
    try simp only [Act.put, List.setIfInBounds_toArray, List.set_cons_zero, List.set_cons_succ]
    refine wpAnyH_take (i := 16) (oi := ?oi16) (v := (.int .i64 c.maxHead)) ?hi16 (by kernel_rfl) (by kernel_rfl) (by kernel_rfl) ?hQ16 ?hy16 hHeld ?rest16
    case hi16 =>
      simp only [List.getElem?_toArray, List.getElem?_cons_succ, List.getElem?_cons_zero]
      rfl
    case hQ16 => exact fun _ _ _ h => h
    case hy16 =>
      refine Or.inl ⟨by rfl, ?_⟩
      intro w hSw
      have hcc := hSw.out.cell 11 _ rfl
      go_simp
    try simp only [Act.put, List.setIfInBounds_toArray, List.set_cons_zero, List.set_cons_succ]
    refine wpAnyH_take (i := 17) (oi := ?oi17) (v := (.pointer (some ⟨b, 12, none⟩))) ?hi17 (by kernel_rfl) (by kernel_rfl) (by kernel_rfl) ?hQ17 ?hy17 hHeld ?rest17
    case hi17 =>
      simp only [List.getElem?_toArray, List.getElem?_cons_succ, List.getElem?_cons_zero]
      rfl
    case hQ17 => exact fun _ _ _ h => h
    case hy17 =>
      refine Or.inl ⟨by rfl, ?_⟩
      intro w hSw
      go_simp
    try simp only [Act.put, List.setIfInBounds_toArray, List.set_cons_zero, List.set_cons_succ]
    refine wpAnyH_take (i := 18) (oi := ?oi18) (v := (.int .i64 c.maxBody)) ?hi18 (by kernel_rfl) (by kernel_rfl) (by kernel_rfl) ?hQ18 ?hy18 hHeld ?rest18
    case hi18 =>
      simp only [List.getElem?_toArray, List.getElem?_cons_succ, List.getElem?_cons_zero]
      rfl
    case hQ18 => exact fun _ _ _ h => h
    case hy18 =>
      refine Or.inl ⟨by rfl, ?_⟩
      intro w hSw
      have hcc := hSw.out.cell 12 _ rfl
      go_simp
    try simp only [Act.put, List.setIfInBounds_toArray, List.set_cons_zero, List.set_cons_succ]
    refine wpAnyH_take (i := 19) (oi := ?oi19) (v := (.int .i64 (c.maxHead + c.maxBody))) ?hi19 (by kernel_rfl) (by kernel_rfl) (by kernel_rfl) ?hQ19 ?hy19 hHeld ?rest19
    case hi19 =>
      simp only [List.getElem?_toArray, List.getElem?_cons_succ, List.getElem?_cons_zero]
      rfl
    case hQ19 => exact fun _ _ _ h => h
    case hy19 =>
      refine Or.inl ⟨by rfl, ?_⟩
      intro w hSw
      go_simp
    try simp only [Act.put, List.setIfInBounds_toArray, List.set_cons_zero, List.set_cons_succ]
    refine wpAnyH_take (i := 20) (oi := ?oi20) (v := (.int .i64 (c.maxHead + c.maxBody + 8192))) ?hi20 (by kernel_rfl) (by kernel_rfl) (by kernel_rfl) ?hQ20 ?hy20 hHeld ?rest20
    case hi20 =>
      simp only [List.getElem?_toArray, List.getElem?_cons_succ, List.getElem?_cons_zero]
      rfl
    case hQ20 => exact fun _ _ _ h => h
    case hy20 =>
      refine Or.inl ⟨by rfl, ?_⟩
      intro w hSw
      go_simp
    try simp only [Act.put, List.setIfInBounds_toArray, List.set_cons_zero, List.set_cons_succ]
    refine wpAnyH_ready (rs := [14]) (by kernel_rfl) (by simp) ?_
    refine AllReadyH.cons rfl (fun K hK => ?_) AllReadyH.nil
    go_simp
    refine (caps_any c (.slice A c.hosts.length cap) (.slice A2 ln2 cap2) _ (Lib.hid (HT.out.chg (Chg.refl [] _).drew))).mono ?_
    rintro e w3 ⟨rfl, H3⟩
    have HCD := Lib.hid (HC.out.drew.trans H3.out (by simp))
    have HBD := Lib.hid ((HB.out.chg (Chg.refl [] _).drew (by simp)).chg H3.out (by simp))
    rw [HKK.out]
    go_wp2_with fail
    refine hK.out _ _ HBD (fun hHeld => ?_)
    clear hK K
    try simp only [Act.put, List.setIfInBounds_toArray, List.set_cons_zero, List.set_cons_succ]
    refine wpAnyH_take (i := 21) (oi := ?oi21) (v := (.int .i64 (K * (c.maxHead + c.maxBody + 8192)))) ?hi21 (by kernel_rfl) (by kernel_rfl) (by kernel_rfl) ?hQ21 ?hy21 hHeld ?rest21
    case hi21 =>
      simp only [List.getElem?_toArray, List.getElem?_cons_succ, List.getElem?_cons_zero]
      rfl
    case hQ21 => exact fun _ _ _ h => h
    case hy21 =>
      refine Or.inl ⟨by rfl, ?_⟩
      intro w hSw
      go_simp
    try simp only [Act.put, List.setIfInBounds_toArray, List.set_cons_zero, List.set_cons_succ]
    refine wpAnyH_take (i := 22) (oi := ?oi22) (v := (.int .i64 (c.clients * (2 * c.maxHead + c.maxBody + c.maxOut + 8192) + K * (c.maxHead + c.maxBody + 8192)))) ?hi22 (by kernel_rfl) (by kernel_rfl) (by kernel_rfl) ?hQ22 ?hy22 hHeld ?rest22
    case hi22 =>
      simp only [List.getElem?_toArray, List.getElem?_cons_succ, List.getElem?_cons_zero]
      rfl
    case hQ22 => exact fun _ _ _ h => h
    case hy22 =>
      refine Or.inl ⟨by rfl, ?_⟩
      intro w hSw
      go_simp
    try simp only [Act.put, List.setIfInBounds_toArray, List.set_cons_zero, List.set_cons_succ]
    refine wpAnyH_take (i := 23) (oi := ?oi23) (v := (.int .i64 (c.clients * (2 * c.maxHead + c.maxBody + c.maxOut + 8192) + K * (c.maxHead + c.maxBody + 8192)))) ?hi23 (by kernel_rfl) (by kernel_rfl) (by kernel_rfl) ?hQ23 ?hy23 hHeld ?rest23
    case hi23 =>
      simp only [List.getElem?_toArray, List.getElem?_cons_succ, List.getElem?_cons_zero]
      rfl
    case hQ23 => exact fun _ _ _ h => h
    case hy23 =>
      refine Or.inl ⟨by rfl, ?_⟩
      intro w hSw
      go_simp
    try simp only [Act.put, List.setIfInBounds_toArray, List.set_cons_zero, List.set_cons_succ]
    refine wpAnyH_take (i := 24) (oi := ?oi24) (v := (.int .i64 0)) ?hi24 (by kernel_rfl) (by kernel_rfl) (by kernel_rfl) ?hQ24 ?hy24 hHeld ?rest24
    case hi24 =>
      simp only [List.getElem?_toArray, List.getElem?_cons_succ, List.getElem?_cons_zero]
      rfl
    case hQ24 => exact fun _ _ _ h => h
    case hy24 =>
      refine Or.inl ⟨by rfl, ?_⟩
      intro w hSw
      go_simp
    try simp only [Act.put, List.setIfInBounds_toArray, List.set_cons_zero, List.set_cons_succ]
    refine wpAnyH_done (by kernel_rfl) ?_ _
    go_wp2_with fail
    go_ret2
    refine ⟨?_, HCD.out⟩
    rw [HCN.out, HKK.out]
    rfl
end Go.Proofs.YtjndgkbikhndoaaGreatDoor
