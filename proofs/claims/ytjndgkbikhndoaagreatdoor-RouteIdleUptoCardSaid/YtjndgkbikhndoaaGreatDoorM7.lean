/- Layer 13: Conns, Timers, Buffered, speaks, tables of its own. -/
import Derived.Test.YtjndgkbikhndoaaGreatDoorM6
import Derived.Deep.RegionHeld3
import Derived.Test.YtjndgkbikhndoaaGreatDoorM3
namespace Go.Proofs.YtjndgkbikhndoaaGreatDoor
open Go.RowKit Go.ChangeShapes Go.WideShapes
set_option linter.unusedVariables false
set_option linter.unusedSimpArgs false

/-- A row is read whole, under what holds meanwhile. -/
theorem yields_row {ops : Array Oper} {S : World → Prop} {op : Oper} {a : Go.Act} (hw : Region.wanted op (yielded ops a.tmps) = true) (T : TypeId) (x : Operand) (ho : op.op = .load T x) (p : Addr) (v : Value)
    (hx : a.eval x = .pointer (some p)) (hS : ∀ w, S w → (loadVar T p).run Tryz.prog w = .ok v w) : YieldsIf Tryz.prog ops S op v a :=
  .inl ⟨hw, fun w hw' => by
    unfold execOp
    simp only [ho, hx, Instr.loadAt, Instr.sureAddr, Sem.run_bind, Sem.run_pure, Result.andThen_ok, hS w hw']⟩
set_option maxHeartbeats 8000000 in
set_option maxRecDepth 100000 in
theorem conns_any (c : Cf) (hv rv : Value) (ps : List (Value × Value)) (w : World) (hE : Hid (Env w)) (hC : Hid (CfAt w c hv rv ps)) (hS : Hid (CfSz c)) (z : Bool) (hz : rightB c = z) :
    Calls Tryz.prog 20 #[.agg (cfRow c hv rv).toArray] w fun e w' => e = .returned (.tuple #[.int .i64 (okN z (connsN c)), .int .i64 (ok3 z)]) ∧ Hid (Chg [] w w') := by
  have hl1 : (c.hosts.map htRow).length = c.hosts.length := List.length_map _
  obtain ⟨A, cap, rfl⟩ := hC.out.hs.form
  obtain ⟨A2, cap2, rfl⟩ := hC.out.rs.tb.form
  rw [hl1] at hC ⊢
  generalize hl2 : ((c.routes.zip ps).map (fun x => rtRow x.1 x.2.1 x.2.2)).length = ln2 at *
  clear hl2
  obtain ⟨rv0, hrv⟩ : ∃ rv0, Value.slice A2 ln2 cap2 = rv0 := ⟨_, rfl⟩
  have HRV := Lib.hid hrv
  clear hrv
  have HCK := Lib.hid (fun W (hc : Hid (Chg [] w W)) => check_any c (.slice A c.hosts.length cap) (.slice A2 ln2 cap2) ps W (Lib.hid (hE.out.chg hc.out)) (Lib.hid (hC.out.chg hc.out)) hS z hz)
  have HB0 := Lib.hid (Blk.new w (cfRow c (.slice A c.hosts.length cap) (.slice A2 ln2 cap2)) 36)
  have HC0 := Lib.hid ((Chg.refl [] w).alloc (.cells (cfRow c (.slice A c.hosts.length cap) (.slice A2 ln2 cap2)).toArray 36))
  have HRG := Lib.hid (fun h : z = true => rgt_of (hz.trans h))
  clear hl1 hz
  change Calls Tryz.prog 20 #[.agg #[.slice A c.hosts.length cap, .slice A2 ln2 cap2, .int .i64 c.every, .int .i64 c.timeout, .int .i64 c.up, .int .i64 c.down, .string c.path, .int .i64 c.fails, .int .i64 c.base, .int .i64 c.longest, .int .i64 c.share, .int .i64 c.maxHead, .int .i64 c.maxBody, .int .i64 c.maxOut, .int .i64 c.headTime, .int .i64 c.idle, .int .i64 c.life, .int .i64 c.clients]] w _
  go_enter Tryz.func20, Tryz.ntmps20
  go_upto_region 1 with fail
  change Hid (Blk (w.alloc (.cells #[.slice A c.hosts.length cap, .slice A2 ln2 cap2, .int .i64 c.every, .int .i64 c.timeout, .int .i64 c.up, .int .i64 c.down, .string c.path, .int .i64 c.fails, .int .i64 c.base, .int .i64 c.longest, .int .i64 c.share, .int .i64 c.maxHead, .int .i64 c.maxBody, .int .i64 c.maxOut, .int .i64 c.headTime, .int .i64 c.idle, .int .i64 c.life, .int .i64 c.clients] 36)) _ _ _) at HB0
  change Hid (Chg [] w (w.alloc (.cells #[.slice A c.hosts.length cap, .slice A2 ln2 cap2, .int .i64 c.every, .int .i64 c.timeout, .int .i64 c.up, .int .i64 c.down, .string c.path, .int .i64 c.fails, .int .i64 c.base, .int .i64 c.longest, .int .i64 c.share, .int .i64 c.maxHead, .int .i64 c.maxBody, .int .i64 c.maxOut, .int .i64 c.headTime, .int .i64 c.idle, .int .i64 c.life, .int .i64 c.clients] 36))) at HC0
  generalize w.alloc (.cells #[.slice A c.hosts.length cap, .slice A2 ln2 cap2, .int .i64 c.every, .int .i64 c.timeout, .int .i64 c.up, .int .i64 c.down, .string c.path, .int .i64 c.fails, .int .i64 c.base, .int .i64 c.longest, .int .i64 c.share, .int .i64 c.maxHead, .int .i64 c.maxBody, .int .i64 c.maxOut, .int .i64 c.headTime, .int .i64 c.idle, .int .i64 c.life, .int .i64 c.clients] 36) = W1 at HB0 HC0 ⊢
  generalize w.heap.size = b at HB0 ⊢
  have HLD := Lib.hid (load_row 36 _ (cfRow c (.slice A c.hosts.length cap) (.slice A2 ln2 cap2)) Tryz.underlying36 rfl (by kernel_rfl) (fun j x hj => by rw [Nat.zero_add]; exact HB0.out.cell j x hj))
  go_wp2_with (refine wpList_load_row rfl 36 _ rfl ⟨b, 0, none⟩ _ rfl HLD.out ?_)
  refine (HCK.out _ HC0).mono ?_
  rintro e W2 ⟨rfl, H2⟩
  have HB := Lib.hid (HB0.out.chg H2.out (by simp))
  have HC := Lib.hid (HC0.out.trans H2.out (by simp))
  cases z
  · rw [show ok3 false = 3 from rfl]
    go_wp2_with fail
    go_ret2
    exact ⟨rfl, HC.out⟩
  · rw [show ok3 true = 0 from rfl]
    have hR := HRG.out rfl
    have hn := hR.nums
    have hcn := hR.capsN
    have h16 := hR.h2
    have HT := Lib.hid (show HtsAt W2 c (.slice A c.hosts.length cap) from ⟨hC.out.hs.chg HC.out, hR.h2, hR.caps⟩)
    have HCN := Lib.hid (show connsN c = c.clients + capsN c + c.hosts.length from rfl)
    obtain ⟨K, hK⟩ : ∃ K, capsN c = K := ⟨_, rfl⟩
    rw [hK] at hcn
    have HKK := Lib.hid hK
    have hw1 : IntKind.i64.wrap (c.clients + K) = c.clients + K := wrap_in (by omega) (by omega)
    have hw2 : IntKind.i64.wrap (c.clients + K + (c.hosts.length : Int)) = c.clients + K + (c.hosts.length : Int) := wrap_in (by omega) (by omega)
    clear hK hR hn hcn
    go_wp2_with fail
    refine wp_region_held_drew (S := fun W => Hid (Blk W b (cfRow c (.slice A c.hosts.length cap) (.slice A2 ln2 cap2)) 36)) (by kernel_rfl) (Lib.hid (HB.out.chg (Chg.refl [] _).drew (by simp))) (fun hHeld => ?_)
    refine wpAnyH_take (i := 0) (oi := ?oi0) (v := (.pointer (some ⟨b, 17, none⟩))) ?hi0 (by kernel_rfl) (by kernel_rfl) (by kernel_rfl) ?hQ0 ?hy0 hHeld ?rest0
    case hi0 =>
      simp only [List.getElem?_toArray, List.getElem?_cons_zero]
      rfl
    case hQ0 => exact fun _ _ _ h => h
    case hy0 =>
      refine Or.inl ⟨by rfl, ?_⟩
      intro w hSw
      go_simp
    try simp only [Act.put, List.setIfInBounds_toArray, List.set_cons_zero, List.set_cons_succ]
    refine wpAnyH_take (i := 1) (oi := ?oi1) (v := (.int .i64 c.clients)) ?hi1 (by kernel_rfl) (by kernel_rfl) (by kernel_rfl) ?hQ1 ?hy1 hHeld ?rest1
    case hi1 =>
      simp only [List.getElem?_toArray, List.getElem?_cons_succ, List.getElem?_cons_zero]
      rfl
    case hQ1 => exact fun _ _ _ h => h
    case hy1 =>
      refine Or.inl ⟨by rfl, ?_⟩
      intro w hSw
      have hcc := hSw.out.cell 17 _ rfl
      go_simp
    try simp only [Act.put, List.setIfInBounds_toArray, List.set_cons_zero, List.set_cons_succ]
    refine wpAnyH_take (i := 2) (oi := ?oi2) (v := .agg (cfRow c (.slice A c.hosts.length cap) (.slice A2 ln2 cap2)).toArray) ?hi2 (by kernel_rfl) (by kernel_rfl) (by kernel_rfl) ?hQ2 ?hy2 hHeld ?rest2
    case hi2 =>
      simp only [List.getElem?_toArray, List.getElem?_cons_succ, List.getElem?_cons_zero]
      rfl
    case hQ2 => exact fun _ _ _ h => h
    case hy2 =>
      exact yields_row (by rfl) 36 _ rfl ⟨b, 0, none⟩ _ rfl (fun w hSw => load_row 36 _ (cfRow c (.slice A c.hosts.length cap) (.slice A2 ln2 cap2)) Tryz.underlying36 rfl (by kernel_rfl) (fun j x hj => by rw [Nat.zero_add]; exact hSw.out.cell j x hj))
    try simp only [Act.put, List.setIfInBounds_toArray, List.set_cons_zero, List.set_cons_succ]
    refine wpAnyH_take (i := 5) (oi := ?oi5) (v := (.pointer (some ⟨b, 0, none⟩))) ?hi5 (by kernel_rfl) (by kernel_rfl) (by kernel_rfl) ?hQ5 ?hy5 hHeld ?rest5
    case hi5 =>
      simp only [List.getElem?_toArray, List.getElem?_cons_succ, List.getElem?_cons_zero]
      rfl
    case hQ5 => exact fun _ _ _ h => h
    case hy5 =>
      refine Or.inl ⟨by rfl, ?_⟩
      intro w hSw
      go_simp
    try simp only [Act.put, List.setIfInBounds_toArray, List.set_cons_zero, List.set_cons_succ]
    refine wpAnyH_take (i := 6) (oi := ?oi6) (v := (.slice A c.hosts.length cap)) ?hi6 (by kernel_rfl) (by kernel_rfl) (by kernel_rfl) ?hQ6 ?hy6 hHeld ?rest6
    case hi6 =>
      simp only [List.getElem?_toArray, List.getElem?_cons_succ, List.getElem?_cons_zero]
      rfl
    case hQ6 => exact fun _ _ _ h => h
    case hy6 =>
      refine Or.inl ⟨by rfl, ?_⟩
      intro w hSw
      have hcc := hSw.out.cell 0 _ rfl
      go_simp
    try simp only [Act.put, List.setIfInBounds_toArray, List.set_cons_zero, List.set_cons_succ]
    refine wpAnyH_take (i := 7) (oi := ?oi7) (v := (.int .i64 (c.hosts.length : Int))) ?hi7 (by kernel_rfl) (by kernel_rfl) (by kernel_rfl) ?hQ7 ?hy7 hHeld ?rest7
    case hi7 =>
      simp only [List.getElem?_toArray, List.getElem?_cons_succ, List.getElem?_cons_zero]
      rfl
    case hQ7 => exact fun _ _ _ h => h
    case hy7 =>
      refine Or.inl ⟨by rfl, ?_⟩
      intro w hSw
      go_simp
    try simp only [Act.put, List.setIfInBounds_toArray, List.set_cons_zero, List.set_cons_succ]
    refine wpAnyH_ready (rs := [3]) (by kernel_rfl) (by simp) ?_
    refine AllReadyH.cons rfl (fun K hK => ?_) AllReadyH.nil
    go_simp
    refine (caps_any c (.slice A c.hosts.length cap) (.slice A2 ln2 cap2) _ (Lib.hid (HT.out.chg (Chg.refl [] _).drew))).mono ?_
    rintro e w3 ⟨rfl, H3⟩
    have HCD := Lib.hid (HC.out.drew.trans H3.out (by simp))
    have HBD := Lib.hid ((HB.out.chg (Chg.refl [] _).drew (by simp)).chg H3.out (by simp))
    rw [HKK.out]
    go_wp2_with fail
    refine hK.out _ _ HBD (fun hHeld => ?_)
    clear hK K
    try simp only [Act.put, List.setIfInBounds_toArray, List.set_cons_zero, List.set_cons_succ]
    refine wpAnyH_take (i := 4) (oi := ?oi4) (v := (.int .i64 (c.clients + K))) ?hi4 (by kernel_rfl) (by kernel_rfl) (by kernel_rfl) ?hQ4 ?hy4 hHeld ?rest4
    case hi4 =>
      simp only [List.getElem?_toArray, List.getElem?_cons_succ, List.getElem?_cons_zero]
      rfl
    case hQ4 => exact fun _ _ _ h => h
    case hy4 =>
      refine Or.inl ⟨by rfl, ?_⟩
      intro w hSw
      go_simp
    try simp only [Act.put, List.setIfInBounds_toArray, List.set_cons_zero, List.set_cons_succ]
    refine wpAnyH_take (i := 8) (oi := ?oi8) (v := (.int .i64 (c.clients + K + (c.hosts.length : Int)))) ?hi8 (by kernel_rfl) (by kernel_rfl) (by kernel_rfl) ?hQ8 ?hy8 hHeld ?rest8
    case hi8 =>
      simp only [List.getElem?_toArray, List.getElem?_cons_succ, List.getElem?_cons_zero]
      rfl
    case hQ8 => exact fun _ _ _ h => h
    case hy8 =>
      refine Or.inl ⟨by rfl, ?_⟩
      intro w hSw
      go_simp
    try simp only [Act.put, List.setIfInBounds_toArray, List.set_cons_zero, List.set_cons_succ]
    refine wpAnyH_take (i := 9) (oi := ?oi9) (v := (.int .i64 (c.clients + K + (c.hosts.length : Int)))) ?hi9 (by kernel_rfl) (by kernel_rfl) (by kernel_rfl) ?hQ9 ?hy9 hHeld ?rest9
    case hi9 =>
      simp only [List.getElem?_toArray, List.getElem?_cons_succ, List.getElem?_cons_zero]
      rfl
    case hQ9 => exact fun _ _ _ h => h
    case hy9 =>
      refine Or.inl ⟨by rfl, ?_⟩
      intro w hSw
      go_simp
    try simp only [Act.put, List.setIfInBounds_toArray, List.set_cons_zero, List.set_cons_succ]
    refine wpAnyH_take (i := 10) (oi := ?oi10) (v := (.int .i64 0)) ?hi10 (by kernel_rfl) (by kernel_rfl) (by kernel_rfl) ?hQ10 ?hy10 hHeld ?rest10
    case hi10 =>
      simp only [List.getElem?_toArray, List.getElem?_cons_succ, List.getElem?_cons_zero]
      rfl
    case hQ10 => exact fun _ _ _ h => h
    case hy10 =>
      refine Or.inl ⟨by rfl, ?_⟩
      intro w hSw
      go_simp
    try simp only [Act.put, List.setIfInBounds_toArray, List.set_cons_zero, List.set_cons_succ]
    refine wpAnyH_done (by kernel_rfl) ?_ _
    go_wp2_with fail
    go_ret2
    refine ⟨?_, HCD.out⟩
    rw [HCN.out, HKK.out]
    rfl
theorem mul_bd {a b m n : Int} (a0 : 0 ≤ a) (a1 : a ≤ m) (b0 : 0 ≤ b) (b1 : b ≤ n) : 0 ≤ a * b ∧ a * b ≤ m * n :=
  ⟨Int.mul_nonneg a0 b0, Int.le_trans (Int.mul_le_mul_of_nonneg_right a1 b0) (Int.mul_le_mul_of_nonneg_left b1 (Int.le_trans a0 a1))⟩
set_option maxHeartbeats 8000000 in
set_option maxRecDepth 100000 in
theorem buf_any (c : Cf) (hv rv : Value) (ps : List (Value × Value)) (w : World) (hE : Hid (Env w)) (hC : Hid (CfAt w c hv rv ps)) (hS : Hid (CfSz c)) (z : Bool) (hz : rightB c = z) :
    Calls Tryz.prog 19 #[.agg (cfRow c hv rv).toArray] w fun e w' => e = .returned (.tuple #[.int .i64 (okN z (bufN c)), .int .i64 (ok3 z)]) ∧ Hid (Chg [] w w') := by
  have hl1 : (c.hosts.map htRow).length = c.hosts.length := List.length_map _
  obtain ⟨A, cap, rfl⟩ := hC.out.hs.form
  obtain ⟨A2, cap2, rfl⟩ := hC.out.rs.tb.form
  rw [hl1] at hC ⊢
  generalize hl2 : ((c.routes.zip ps).map (fun x => rtRow x.1 x.2.1 x.2.2)).length = ln2 at *
  clear hl2
  obtain ⟨rv0, hrv⟩ : ∃ rv0, Value.slice A2 ln2 cap2 = rv0 := ⟨_, rfl⟩
  have HRV := Lib.hid hrv
  clear hrv
  have HCK := Lib.hid (fun W (hc : Hid (Chg [] w W)) => check_any c (.slice A c.hosts.length cap) (.slice A2 ln2 cap2) ps W (Lib.hid (hE.out.chg hc.out)) (Lib.hid (hC.out.chg hc.out)) hS z hz)
  have HB0 := Lib.hid (Blk.new w (cfRow c (.slice A c.hosts.length cap) (.slice A2 ln2 cap2)) 36)
  have HC0 := Lib.hid ((Chg.refl [] w).alloc (.cells (cfRow c (.slice A c.hosts.length cap) (.slice A2 ln2 cap2)).toArray 36))
  have HRG := Lib.hid (fun h : z = true => rgt_of (hz.trans h))
  clear hl1 hz
  change Calls Tryz.prog 19 #[.agg #[.slice A c.hosts.length cap, .slice A2 ln2 cap2, .int .i64 c.every, .int .i64 c.timeout, .int .i64 c.up, .int .i64 c.down, .string c.path, .int .i64 c.fails, .int .i64 c.base, .int .i64 c.longest, .int .i64 c.share, .int .i64 c.maxHead, .int .i64 c.maxBody, .int .i64 c.maxOut, .int .i64 c.headTime, .int .i64 c.idle, .int .i64 c.life, .int .i64 c.clients]] w _
  go_enter Tryz.func19, Tryz.ntmps19
  go_upto_region 1 with fail
  change Hid (Blk (w.alloc (.cells #[.slice A c.hosts.length cap, .slice A2 ln2 cap2, .int .i64 c.every, .int .i64 c.timeout, .int .i64 c.up, .int .i64 c.down, .string c.path, .int .i64 c.fails, .int .i64 c.base, .int .i64 c.longest, .int .i64 c.share, .int .i64 c.maxHead, .int .i64 c.maxBody, .int .i64 c.maxOut, .int .i64 c.headTime, .int .i64 c.idle, .int .i64 c.life, .int .i64 c.clients] 36)) _ _ _) at HB0
  change Hid (Chg [] w (w.alloc (.cells #[.slice A c.hosts.length cap, .slice A2 ln2 cap2, .int .i64 c.every, .int .i64 c.timeout, .int .i64 c.up, .int .i64 c.down, .string c.path, .int .i64 c.fails, .int .i64 c.base, .int .i64 c.longest, .int .i64 c.share, .int .i64 c.maxHead, .int .i64 c.maxBody, .int .i64 c.maxOut, .int .i64 c.headTime, .int .i64 c.idle, .int .i64 c.life, .int .i64 c.clients] 36))) at HC0
  generalize w.alloc (.cells #[.slice A c.hosts.length cap, .slice A2 ln2 cap2, .int .i64 c.every, .int .i64 c.timeout, .int .i64 c.up, .int .i64 c.down, .string c.path, .int .i64 c.fails, .int .i64 c.base, .int .i64 c.longest, .int .i64 c.share, .int .i64 c.maxHead, .int .i64 c.maxBody, .int .i64 c.maxOut, .int .i64 c.headTime, .int .i64 c.idle, .int .i64 c.life, .int .i64 c.clients] 36) = W1 at HB0 HC0 ⊢
  generalize w.heap.size = b at HB0 ⊢
  have HLD := Lib.hid (load_row 36 _ (cfRow c (.slice A c.hosts.length cap) (.slice A2 ln2 cap2)) Tryz.underlying36 rfl (by kernel_rfl) (fun j x hj => by rw [Nat.zero_add]; exact HB0.out.cell j x hj))
  go_wp2_with (refine wpList_load_row rfl 36 _ rfl ⟨b, 0, none⟩ _ rfl HLD.out ?_)
  refine (HCK.out _ HC0).mono ?_
  rintro e W2 ⟨rfl, H2⟩
  have HB := Lib.hid (HB0.out.chg H2.out (by simp))
  have HC := Lib.hid (HC0.out.trans H2.out (by simp))
  cases z
  · rw [show ok3 false = 3 from rfl]
    go_wp2_with fail
    go_ret2
    exact ⟨rfl, HC.out⟩
  · rw [show ok3 true = 0 from rfl]
    have hR := HRG.out rfl
    have hn := hR.nums
    have hcn := hR.capsN
    have h16 := hR.h2
    have HT := Lib.hid (show HtsAt W2 c (.slice A c.hosts.length cap) from ⟨hC.out.hs.chg HC.out, hR.h2, hR.caps⟩)
    have HCN := Lib.hid (show bufN c = c.clients * (2 * c.maxHead + c.maxBody + c.maxOut + 8192) + capsN c * (c.maxHead + c.maxBody + 8192) from rfl)
    obtain ⟨K, hK⟩ : ∃ K, capsN c = K := ⟨_, rfl⟩
    rw [hK] at hcn
    have HKK := Lib.hid hK
    have hm1 := mul_bd (a := c.clients) (b := (2 * c.maxHead + c.maxBody + c.maxOut + 8192)) (m := 256) (n := 3000000) (by omega) (by omega) (by omega) (by omega)
    have hm2 := mul_bd (a := K) (b := (c.maxHead + c.maxBody + 8192)) (m := 1024) (n := 3000000) (by omega) (by omega) (by omega) (by omega)
    have hw1 : IntKind.i64.wrap (2 * c.maxHead) = 2 * c.maxHead := wrap_in (by omega) (by omega)
    have hw2 : IntKind.i64.wrap (2 * c.maxHead + c.maxBody) = 2 * c.maxHead + c.maxBody := wrap_in (by omega) (by omega)
    have hw3 : IntKind.i64.wrap (2 * c.maxHead + c.maxBody + c.maxOut) = 2 * c.maxHead + c.maxBody + c.maxOut := wrap_in (by omega) (by omega)
    have hw4 : IntKind.i64.wrap (2 * c.maxHead + c.maxBody + c.maxOut + 8192) = (2 * c.maxHead + c.maxBody + c.maxOut + 8192) := wrap_in (by omega) (by omega)
    have hw5 : IntKind.i64.wrap (c.clients * (2 * c.maxHead + c.maxBody + c.maxOut + 8192)) = c.clients * (2 * c.maxHead + c.maxBody + c.maxOut + 8192) := wrap_in (by omega) (by omega)
    have hw6 : IntKind.i64.wrap (c.maxHead + c.maxBody) = c.maxHead + c.maxBody := wrap_in (by omega) (by omega)
    have hw7 : IntKind.i64.wrap (c.maxHead + c.maxBody + 8192) = (c.maxHead + c.maxBody + 8192) := wrap_in (by omega) (by omega)
    have hw8 : IntKind.i64.wrap (K * (c.maxHead + c.maxBody + 8192)) = K * (c.maxHead + c.maxBody + 8192) := wrap_in (by omega) (by omega)
    have hw9 : IntKind.i64.wrap (c.clients * (2 * c.maxHead + c.maxBody + c.maxOut + 8192) + K * (c.maxHead + c.maxBody + 8192)) = c.clients * (2 * c.maxHead + c.maxBody + c.maxOut + 8192) + K * (c.maxHead + c.maxBody + 8192) := wrap_in (by omega) (by omega)
    clear hK hR hn hcn hm1 hm2
    go_wp2_with fail
    refine wp_region_held_drew (S := fun W => Hid (Blk W b (cfRow c (.slice A c.hosts.length cap) (.slice A2 ln2 cap2)) 36)) (by kernel_rfl) (Lib.hid (HB.out.chg (Chg.refl [] _).drew (by simp))) (fun hHeld => ?_)
    refine wpAnyH_take (i := 0) (oi := ?oi0) (v := (.pointer (some ⟨b, 17, none⟩))) ?hi0 (by kernel_rfl) (by kernel_rfl) (by kernel_rfl) ?hQ0 ?hy0 hHeld ?rest0
    case hi0 =>
      simp only [List.getElem?_toArray, List.getElem?_cons_zero]
      rfl
    case hQ0 => exact fun _ _ _ h => h
    case hy0 =>
      refine Or.inl ⟨by rfl, ?_⟩
      intro w hSw
      go_simp
    try simp only [Act.put, List.setIfInBounds_toArray, List.set_cons_zero, List.set_cons_succ]
    refine wpAnyH_take (i := 1) (oi := ?oi1) (v := (.int .i64 c.clients)) ?hi1 (by kernel_rfl) (by kernel_rfl) (by kernel_rfl) ?hQ1 ?hy1 hHeld ?rest1
    case hi1 =>
      simp only [List.getElem?_toArray, List.getElem?_cons_succ, List.getElem?_cons_zero]
      rfl
    case hQ1 => exact fun _ _ _ h => h
    case hy1 =>
      refine Or.inl ⟨by rfl, ?_⟩
      intro w hSw
      have hcc := hSw.out.cell 17 _ rfl
      go_simp
    try simp only [Act.put, List.setIfInBounds_toArray, List.set_cons_zero, List.set_cons_succ]
    refine wpAnyH_take (i := 2) (oi := ?oi2) (v := (.pointer (some ⟨b, 11, none⟩))) ?hi2 (by kernel_rfl) (by kernel_rfl) (by kernel_rfl) ?hQ2 ?hy2 hHeld ?rest2
    case hi2 =>
      simp only [List.getElem?_toArray, List.getElem?_cons_succ, List.getElem?_cons_zero]
      rfl
    case hQ2 => exact fun _ _ _ h => h
    case hy2 =>
      refine Or.inl ⟨by rfl, ?_⟩
      intro w hSw
      go_simp
    try simp only [Act.put, List.setIfInBounds_toArray, List.set_cons_zero, List.set_cons_succ]
    refine wpAnyH_take (i := 3) (oi := ?oi3) (v := (.int .i64 c.maxHead)) ?hi3 (by kernel_rfl) (by kernel_rfl) (by kernel_rfl) ?hQ3 ?hy3 hHeld ?rest3
    case hi3 =>
      simp only [List.getElem?_toArray, List.getElem?_cons_succ, List.getElem?_cons_zero]
      rfl
    case hQ3 => exact fun _ _ _ h => h
    case hy3 =>
      refine Or.inl ⟨by rfl, ?_⟩
      intro w hSw
      have hcc := hSw.out.cell 11 _ rfl
      go_simp
    try simp only [Act.put, List.setIfInBounds_toArray, List.set_cons_zero, List.set_cons_succ]
    refine wpAnyH_take (i := 4) (oi := ?oi4) (v := (.int .i64 (2 * c.maxHead))) ?hi4 (by kernel_rfl) (by kernel_rfl) (by kernel_rfl) ?hQ4 ?hy4 hHeld ?rest4
    case hi4 =>
      simp only [List.getElem?_toArray, List.getElem?_cons_succ, List.getElem?_cons_zero]
      rfl
    case hQ4 => exact fun _ _ _ h => h
    case hy4 =>
      refine Or.inl ⟨by rfl, ?_⟩
      intro w hSw
      go_simp
    try simp only [Act.put, List.setIfInBounds_toArray, List.set_cons_zero, List.set_cons_succ]
    refine wpAnyH_take (i := 5) (oi := ?oi5) (v := (.pointer (some ⟨b, 12, none⟩))) ?hi5 (by kernel_rfl) (by kernel_rfl) (by kernel_rfl) ?hQ5 ?hy5 hHeld ?rest5
    case hi5 =>
      simp only [List.getElem?_toArray, List.getElem?_cons_succ, List.getElem?_cons_zero]
      rfl
    case hQ5 => exact fun _ _ _ h => h
    case hy5 =>
      refine Or.inl ⟨by rfl, ?_⟩
      intro w hSw
      go_simp
    try simp only [Act.put, List.setIfInBounds_toArray, List.set_cons_zero, List.set_cons_succ]
    refine wpAnyH_take (i := 6) (oi := ?oi6) (v := (.int .i64 c.maxBody)) ?hi6 (by kernel_rfl) (by kernel_rfl) (by kernel_rfl) ?hQ6 ?hy6 hHeld ?rest6
    case hi6 =>
      simp only [List.getElem?_toArray, List.getElem?_cons_succ, List.getElem?_cons_zero]
      rfl
    case hQ6 => exact fun _ _ _ h => h
    case hy6 =>
      refine Or.inl ⟨by rfl, ?_⟩
      intro w hSw
      have hcc := hSw.out.cell 12 _ rfl
      go_simp
    try simp only [Act.put, List.setIfInBounds_toArray, List.set_cons_zero, List.set_cons_succ]
    refine wpAnyH_take (i := 7) (oi := ?oi7) (v := (.int .i64 (2 * c.maxHead + c.maxBody))) ?hi7 (by kernel_rfl) (by kernel_rfl) (by kernel_rfl) ?hQ7 ?hy7 hHeld ?rest7
    case hi7 =>
      simp only [List.getElem?_toArray, List.getElem?_cons_succ, List.getElem?_cons_zero]
      rfl
    case hQ7 => exact fun _ _ _ h => h
    case hy7 =>
      refine Or.inl ⟨by rfl, ?_⟩
      intro w hSw
      go_simp
    try simp only [Act.put, List.setIfInBounds_toArray, List.set_cons_zero, List.set_cons_succ]
    refine wpAnyH_take (i := 8) (oi := ?oi8) (v := (.pointer (some ⟨b, 13, none⟩))) ?hi8 (by kernel_rfl) (by kernel_rfl) (by kernel_rfl) ?hQ8 ?hy8 hHeld ?rest8
    case hi8 =>
      simp only [List.getElem?_toArray, List.getElem?_cons_succ, List.getElem?_cons_zero]
      rfl
    case hQ8 => exact fun _ _ _ h => h
    case hy8 =>
      refine Or.inl ⟨by rfl, ?_⟩
      intro w hSw
      go_simp
    try simp only [Act.put, List.setIfInBounds_toArray, List.set_cons_zero, List.set_cons_succ]
    refine wpAnyH_take (i := 9) (oi := ?oi9) (v := (.int .i64 c.maxOut)) ?hi9 (by kernel_rfl) (by kernel_rfl) (by kernel_rfl) ?hQ9 ?hy9 hHeld ?rest9
    case hi9 =>
      simp only [List.getElem?_toArray, List.getElem?_cons_succ, List.getElem?_cons_zero]
      rfl
    case hQ9 => exact fun _ _ _ h => h
    case hy9 =>
      refine Or.inl ⟨by rfl, ?_⟩
      intro w hSw
      have hcc := hSw.out.cell 13 _ rfl
      go_simp
    try simp only [Act.put, List.setIfInBounds_toArray, List.set_cons_zero, List.set_cons_succ]
    refine wpAnyH_take (i := 10) (oi := ?oi10) (v := (.int .i64 (2 * c.maxHead + c.maxBody + c.maxOut))) ?hi10 (by kernel_rfl) (by kernel_rfl) (by kernel_rfl) ?hQ10 ?hy10 hHeld ?rest10
    case hi10 =>
      simp only [List.getElem?_toArray, List.getElem?_cons_succ, List.getElem?_cons_zero]
      rfl
    case hQ10 => exact fun _ _ _ h => h
    case hy10 =>
      refine Or.inl ⟨by rfl, ?_⟩
      intro w hSw
      go_simp
    try simp only [Act.put, List.setIfInBounds_toArray, List.set_cons_zero, List.set_cons_succ]
    refine wpAnyH_take (i := 11) (oi := ?oi11) (v := (.int .i64 (2 * c.maxHead + c.maxBody + c.maxOut + 8192))) ?hi11 (by kernel_rfl) (by kernel_rfl) (by kernel_rfl) ?hQ11 ?hy11 hHeld ?rest11
    case hi11 =>
      simp only [List.getElem?_toArray, List.getElem?_cons_succ, List.getElem?_cons_zero]
      rfl
    case hQ11 => exact fun _ _ _ h => h
    case hy11 =>
      refine Or.inl ⟨by rfl, ?_⟩
      intro w hSw
      go_simp
    try simp only [Act.put, List.setIfInBounds_toArray, List.set_cons_zero, List.set_cons_succ]
    refine wpAnyH_take (i := 12) (oi := ?oi12) (v := (.int .i64 (c.clients * (2 * c.maxHead + c.maxBody + c.maxOut + 8192)))) ?hi12 (by kernel_rfl) (by kernel_rfl) (by kernel_rfl) ?hQ12 ?hy12 hHeld ?rest12
    case hi12 =>
      simp only [List.getElem?_toArray, List.getElem?_cons_succ, List.getElem?_cons_zero]
      rfl
    case hQ12 => exact fun _ _ _ h => h
    case hy12 =>
      refine Or.inl ⟨by rfl, ?_⟩
      intro w hSw
      go_simp
    try simp only [Act.put, List.setIfInBounds_toArray, List.set_cons_zero, List.set_cons_succ]
    refine wpAnyH_take (i := 13) (oi := ?oi13) (v := .agg (cfRow c (.slice A c.hosts.length cap) (.slice A2 ln2 cap2)).toArray) ?hi13 (by kernel_rfl) (by kernel_rfl) (by kernel_rfl) ?hQ13 ?hy13 hHeld ?rest13
    case hi13 =>
      simp only [List.getElem?_toArray, List.getElem?_cons_succ, List.getElem?_cons_zero]
      rfl
    case hQ13 => exact fun _ _ _ h => h
    case hy13 =>
      exact yields_row (by rfl) 36 _ rfl ⟨b, 0, none⟩ _ rfl (fun w hSw => load_row 36 _ (cfRow c (.slice A c.hosts.length cap) (.slice A2 ln2 cap2)) Tryz.underlying36 rfl (by kernel_rfl) (fun j x hj => by rw [Nat.zero_add]; exact hSw.out.cell j x hj))
    try simp only [Act.put, List.setIfInBounds_toArray, List.set_cons_zero, List.set_cons_succ]
    refine wpAnyH_take (i := 15) (oi := ?oi15) (v := (.pointer (some ⟨b, 11, none⟩))) ?hi15 (by kernel_rfl) (by kernel_rfl) (by kernel_rfl) ?hQ15 ?hy15 hHeld ?rest15
    case hi15 =>
      simp only [List.getElem?_toArray, List.getElem?_cons_succ, List.getElem?_cons_zero]
      rfl
    case hQ15 => exact fun _ _ _ h => h
    case hy15 =>
      refine Or.inl ⟨by rfl, ?_⟩
      intro w hSw
      go_simp
    try simp only [Act.put, List.setIfInBounds_toArray, List.set_cons_zero, List.set_cons_succ]
    refine wpAnyH_take (i := 16) (oi := ?oi16) (v := (.int .i64 c.maxHead)) ?hi16 (by kernel_rfl) (by kernel_rfl) (by kernel_rfl) ?hQ16 ?hy16 hHeld ?rest16
    case hi16 =>
      simp only [List.getElem?_toArray, List.getElem?_cons_succ, List.getElem?_cons_zero]
      rfl
    case hQ16 => exact fun _ _ _ h => h
    case hy16 =>
      refine Or.inl ⟨by rfl, ?_⟩
      intro w hSw
      have hcc := hSw.out.cell 11 _ rfl
      go_simp
    try simp only [Act.put, List.setIfInBounds_toArray, List.set_cons_zero, List.set_cons_succ]
    refine wpAnyH_take (i := 17) (oi := ?oi17) (v := (.pointer (some ⟨b, 12, none⟩))) ?hi17 (by kernel_rfl) (by kernel_rfl) (by kernel_rfl) ?hQ17 ?hy17 hHeld ?rest17
    case hi17 =>
      simp only [List.getElem?_toArray, List.getElem?_cons_succ, List.getElem?_cons_zero]
      rfl
    case hQ17 => exact fun _ _ _ h => h
    case hy17 =>
      refine Or.inl ⟨by rfl, ?_⟩
      intro w hSw
      go_simp
    try simp only [Act.put, List.setIfInBounds_toArray, List.set_cons_zero, List.set_cons_succ]
    refine wpAnyH_take (i := 18) (oi := ?oi18) (v := (.int .i64 c.maxBody)) ?hi18 (by kernel_rfl) (by kernel_rfl) (by kernel_rfl) ?hQ18 ?hy18 hHeld ?rest18
    case hi18 =>
      simp only [List.getElem?_toArray, List.getElem?_cons_succ, List.getElem?_cons_zero]
      rfl
    case hQ18 => exact fun _ _ _ h => h
    case hy18 =>
      refine Or.inl ⟨by rfl, ?_⟩
      intro w hSw
      have hcc := hSw.out.cell 12 _ rfl
      go_simp
    try simp only [Act.put, List.setIfInBounds_toArray, List.set_cons_zero, List.set_cons_succ]
    refine wpAnyH_take (i := 19) (oi := ?oi19) (v := (.int .i64 (c.maxHead + c.maxBody))) ?hi19 (by kernel_rfl) (by kernel_rfl) (by kernel_rfl) ?hQ19 ?hy19 hHeld ?rest19
    case hi19 =>
      simp only [List.getElem?_toArray, List.getElem?_cons_succ, List.getElem?_cons_zero]
      rfl
    case hQ19 => exact fun _ _ _ h => h
    case hy19 =>
      refine Or.inl ⟨by rfl, ?_⟩
      intro w hSw
      go_simp
    try simp only [Act.put, List.setIfInBounds_toArray, List.set_cons_zero, List.set_cons_succ]
    refine wpAnyH_take (i := 20) (oi := ?oi20) (v := (.int .i64 (c.maxHead + c.maxBody + 8192))) ?hi20 (by kernel_rfl) (by kernel_rfl) (by kernel_rfl) ?hQ20 ?hy20 hHeld ?rest20
    case hi20 =>
      simp only [List.getElem?_toArray, List.getElem?_cons_succ, List.getElem?_cons_zero]
      rfl
    case hQ20 => exact fun _ _ _ h => h
    case hy20 =>
      refine Or.inl ⟨by rfl, ?_⟩
      intro w hSw
      go_simp
    try simp only [Act.put, List.setIfInBounds_toArray, List.set_cons_zero, List.set_cons_succ]
    refine wpAnyH_ready (rs := [14]) (by kernel_rfl) (by simp) ?_
    refine AllReadyH.cons rfl (fun K hK => ?_) AllReadyH.nil
    go_simp
    refine (caps_any c (.slice A c.hosts.length cap) (.slice A2 ln2 cap2) _ (Lib.hid (HT.out.chg (Chg.refl [] _).drew))).mono ?_
    rintro e w3 ⟨rfl, H3⟩
    have HCD := Lib.hid (HC.out.drew.trans H3.out (by simp))
    have HBD := Lib.hid ((HB.out.chg (Chg.refl [] _).drew (by simp)).chg H3.out (by simp))
    rw [HKK.out]
    go_wp2_with fail
    refine hK.out _ _ HBD (fun hHeld => ?_)
    clear hK K
    try simp only [Act.put, List.setIfInBounds_toArray, List.set_cons_zero, List.set_cons_succ]
    refine wpAnyH_take (i := 21) (oi := ?oi21) (v := (.int .i64 (K * (c.maxHead + c.maxBody + 8192)))) ?hi21 (by kernel_rfl) (by kernel_rfl) (by kernel_rfl) ?hQ21 ?hy21 hHeld ?rest21
    case hi21 =>
      simp only [List.getElem?_toArray, List.getElem?_cons_succ, List.getElem?_cons_zero]
      rfl
    case hQ21 => exact fun _ _ _ h => h
    case hy21 =>
      refine Or.inl ⟨by rfl, ?_⟩
      intro w hSw
      go_simp
    try simp only [Act.put, List.setIfInBounds_toArray, List.set_cons_zero, List.set_cons_succ]
    refine wpAnyH_take (i := 22) (oi := ?oi22) (v := (.int .i64 (c.clients * (2 * c.maxHead + c.maxBody + c.maxOut + 8192) + K * (c.maxHead + c.maxBody + 8192)))) ?hi22 (by kernel_rfl) (by kernel_rfl) (by kernel_rfl) ?hQ22 ?hy22 hHeld ?rest22
    case hi22 =>
      simp only [List.getElem?_toArray, List.getElem?_cons_succ, List.getElem?_cons_zero]
      rfl
    case hQ22 => exact fun _ _ _ h => h
    case hy22 =>
      refine Or.inl ⟨by rfl, ?_⟩
      intro w hSw
      go_simp
    try simp only [Act.put, List.setIfInBounds_toArray, List.set_cons_zero, List.set_cons_succ]
    refine wpAnyH_take (i := 23) (oi := ?oi23) (v := (.int .i64 (c.clients * (2 * c.maxHead + c.maxBody + c.maxOut + 8192) + K * (c.maxHead + c.maxBody + 8192)))) ?hi23 (by kernel_rfl) (by kernel_rfl) (by kernel_rfl) ?hQ23 ?hy23 hHeld ?rest23
    case hi23 =>
      simp only [List.getElem?_toArray, List.getElem?_cons_succ, List.getElem?_cons_zero]
      rfl
    case hQ23 => exact fun _ _ _ h => h
    case hy23 =>
      refine Or.inl ⟨by rfl, ?_⟩
      intro w hSw
      go_simp
    try simp only [Act.put, List.setIfInBounds_toArray, List.set_cons_zero, List.set_cons_succ]
    refine wpAnyH_take (i := 24) (oi := ?oi24) (v := (.int .i64 0)) ?hi24 (by kernel_rfl) (by kernel_rfl) (by kernel_rfl) ?hQ24 ?hy24 hHeld ?rest24
    case hi24 =>
      simp only [List.getElem?_toArray, List.getElem?_cons_succ, List.getElem?_cons_zero]
      rfl
    case hQ24 => exact fun _ _ _ h => h
    case hy24 =>
      refine Or.inl ⟨by rfl, ?_⟩
      intro w hSw
      go_simp
    try simp only [Act.put, List.setIfInBounds_toArray, List.set_cons_zero, List.set_cons_succ]
    refine wpAnyH_done (by kernel_rfl) ?_ _
    go_wp2_with fail
    go_ret2
    refine ⟨?_, HCD.out⟩
    rw [HCN.out, HKK.out]
    rfl
end Go.Proofs.YtjndgkbikhndoaaGreatDoor

namespace Go.Proofs.YtjndgkbikhndoaaGreatDoor
open Go.RowKit Go.ChangeShapes Go.WideShapes
set_option linter.unusedVariables false

def litR (per : Int) : Rt := ⟨⟨⟨#[]⟩, ⟨#[47]⟩, [], ⟨#[]⟩, ⟨#[]⟩⟩, [0], 1, per, 1, 1, 0, 1, 1, 0, 0, 1, 0, 0, 1, 1, 1⟩
def litC (per : Int) : Cf := ⟨[⟨⟨#[97]⟩, 1, 0⟩], [litR per], 0, 1, 1, 1, ⟨#[]⟩, 0, 1, 1, 0, 16, 0, 1, 1, 1, 1, 1⟩
theorem lit_right : rightB (litC 1) = true := by kernel_rfl
theorem lit_wrong : rightB (litC 0) = false := by kernel_rfl
theorem lit_conns : connsN (litC 1) = 3 := by kernel_rfl
theorem lit_sz (per : Int) : CfSz (litC per) := by
  refine ⟨?_, ?_, Nat.succ_le_of_lt (by show 0 < 1048576; omega), Nat.succ_le_of_lt (by show 0 < 1048576; omega), Nat.zero_le _⟩
  · intro h hh
    rw [show h = ⟨⟨#[97]⟩, 1, 0⟩ from by simpa [litC] using hh]
    show 1 ≤ 1048576
    omega
  · intro r hr
    rw [show r = litR per from by simpa [litC] using hr]
    exact ⟨⟨Nat.zero_le _, by show 1 ≤ 1048576; omega, fun t ht => by simp [litR] at ht, Nat.zero_le _, Nat.zero_le _, Nat.zero_le _⟩, by show 1 ≤ 1048576; omega⟩
theorem blk_row {w : World} {b T : Nat} {vs cs : List Value} (hb : Blk w b vs T) : Blk (w.setRow b cs.toArray) b cs T := setRow_heap w b vs.toArray cs.toArray T (0, 0) hb
theorem blk_other {w : World} {b g T : Nat} {vs : List Value} {cs : Array Value} (hb : Blk w b vs T) (h : b ≠ g) : Blk (w.setRow g cs) b vs T := by
  show (w.heap.modify g _)[b]? = _
  rw [Array.getElem?_modify, if_neg (fun e => h e.symm)]
  exact hb
theorem chg_row {a w : World} {g : Nat} {cs : Array Value} (h : Chg [] a w) (hg : a.heap.size ≤ g) : Chg [] a (w.setRow g cs) :=
  h.trans (F' := [g]) ⟨rfl, rfl, rfl, by rw [size_setRow]; exact Nat.le_refl _, fun k hk hn => by
    show (w.heap.modify g _)[k]? = _
    rw [Array.getElem?_modify, if_neg (fun e => hn (by rw [e]; simp))]⟩ (by intro i hi hlt; simp at hi; omega)
def zeroCf : List Value := [.slice none 0 0, .slice none 0 0, .int .i64 0, .int .i64 0, .int .i64 0, .int .i64 0, .string ⟨#[]⟩, .int .i64 0, .int .i64 0, .int .i64 0, .int .i64 0, .int .i64 0, .int .i64 0, .int .i64 0, .int .i64 0, .int .i64 0, .int .i64 0, .int .i64 0]
/-- The little one's cells. -/
def litRow (p1 : Nat) : List Value := [.string ⟨#[]⟩, .string ⟨#[47]⟩, .slice none 0 0, .string ⟨#[]⟩, .string ⟨#[]⟩, .slice (some ⟨p1, 0, none⟩) 1 1, .int .i64 1, .int .i64 1, .int .i64 1, .int .i64 1, .int .i64 0, .int .i64 1, .int .i64 1, .int .i64 0, .int .i64 0, .int .i64 1, .int .i64 0, .int .i64 0, .int .i64 1, .int .i64 1, .int .i64 1]
theorem litRow_eq (p1 : Nat) : litRow p1 = rtRow (litR 1) (.slice none 0 0) (.slice (some ⟨p1, 0, none⟩) 1 1) := rfl
theorem lit_at {w : World} {p1 p3 p4 : Nat} {per : Int} (h1 : Blk w p1 [.int .i64 0] 3) (h3 : Blk w p3 [.string ⟨#[97]⟩, .int .i64 1, .int .i64 0] 45) (h4 : Blk w p4 (rtRow (litR per) (.slice none 0 0) (.slice (some ⟨p1, 0, none⟩) 1 1)) 42) :
    CfAt w (litC per) (.slice (some ⟨p3, 0, none⟩) 1 1) (.slice (some ⟨p4, 0, none⟩) 1 1) [(.slice none 0 0, .slice (some ⟨p1, 0, none⟩) 1 1)] := by
  refine ⟨Tbl.ofBlk (rows := (litC per).hosts.map htRow) h3 rfl ?_, ⟨rfl, Tbl.ofBlk (rows := [rtRow (litR per) (.slice none 0 0) (.slice (some ⟨p1, 0, none⟩) 1 1)]) h4 (by simp) ?_, ?_⟩⟩
  · intro r hr
    obtain ⟨x, -, rfl⟩ := List.mem_map.1 hr
    rfl
  · intro r hr
    rw [List.mem_singleton.1 hr]
    rfl
  · intro i r p hr hp
    match i, hr, hp with
    | 0, hr, hp =>
      obtain rfl : litR per = r := by simpa [litC] using hr
      obtain rfl := Option.some.inj hp
      exact ⟨⟨none, 0, rfl, Nat.le_refl _, fun h => by simp [strRows, litR] at h⟩, Tbl.ofBlk (rows := intRows [0]) h1 rfl (by intro r hr; rw [List.mem_singleton.1 hr]; rfl)⟩
    | i + 1, hr, hp => simp at hp
set_option maxRecDepth 100000 in
theorem results38 (tmps : Array Value) (w : World) (b : Nat) (vs : List Value) (ht : tmps.getD 0 undef = .pointer (some ⟨b, 0, none⟩)) (hb : Blk w b vs 36) (hl : vs.length = 18) :
    (results Tryz.f38 tmps).run Tryz.prog w = .ok (.agg vs.toArray) w := by
  have hres : Tryz.f38.results = #[.cell 0 36] := by kernel_rfl
  have hi : (Tryz.prog.info? 36).map (·.size) = some vs.length := by
    rw [hl]
    kernel_rfl
  have hv := load_row (w := w) (b := b) (o := 0) 36 _ vs Tryz.underlying36 rfl hi (fun j x hj => by rw [Nat.zero_add]; exact hb.cell j x hj)
  have ht' : tmps[0]?.getD undef = .pointer (some ⟨b, 0, none⟩) := by rw [← Array.getD_eq_getD_getElem?]; exact ht
  simp [results, ht', hv, asAddr]
set_option maxHeartbeats 8000000 in
set_option maxRecDepth 100000 in
theorem little_any (w : World) :
    Calls Tryz.prog 38 #[] w fun e w' => (∃ p3 p4 p1 : Nat, e = .returned (.agg (cfRow (litC 1) (.slice (some ⟨p3, 0, none⟩) 1 1) (.slice (some ⟨p4, 0, none⟩) 1 1)).toArray) ∧ Hid (Blk w' p1 [.int .i64 0] 3) ∧ Hid (Blk w' p3 [.string ⟨#[97]⟩, .int .i64 1, .int .i64 0] 45) ∧ Hid (Blk w' p4 (rtRow (litR 1) (.slice none 0 0) (.slice (some ⟨p1, 0, none⟩) 1 1)) 42) ∧ w.heap.size ≤ p4 ∧ p4 ≠ p3 ∧ p4 ≠ p1) ∧ Hid (Chg [] w w') := by
  have HB0 := Lib.hid (Blk.new w zeroCf 36)
  have HST := Lib.hid (run_storeVar_new (P := Tryz.prog) ((w.alloc (.cells zeroCf.toArray 36)).alloc (.cells #[.int .i64 0] 3)) 42 zeroRt (litRow (w.heap.size + 1)).toArray (by kernel_rfl) rfl (by simp [Value.oneCell', litRow]))
  go_enter Tryz.func38, Tryz.ntmps38
  go_upto_region 2 with (refine wpList_store_row rfl 42 _ _ rfl ⟨w.heap.size + 1 + 1, 0, none⟩ _ _ rfl rfl (by have := HST.out; simp only [World.size_alloc] at this; exact this) ?_)
  have HA0 := Lib.hid ((HB0.out.alloc (.cells #[.int .i64 0] 3)).alloc (.cells (litRow (w.heap.size + 1)).toArray 42))
  have HA1 := Lib.hid ((Blk.new (w.alloc (.cells zeroCf.toArray 36)) [.int .i64 0] 3).alloc (.cells (litRow (w.heap.size + 1)).toArray 42))
  have HA2 := Lib.hid (Blk.new ((w.alloc (.cells zeroCf.toArray 36)).alloc (.cells #[.int .i64 0] 3)) (litRow (w.heap.size + 1)) 42)
  have HC := Lib.hid ((((Chg.refl [] w).alloc (.cells zeroCf.toArray 36)).alloc (.cells #[.int .i64 0] 3)).alloc (.cells (litRow (w.heap.size + 1)).toArray 42))
  have HZ := Lib.hid (show (((w.alloc (.cells zeroCf.toArray 36)).alloc (.cells #[.int .i64 0] 3)).alloc (.cells (litRow (w.heap.size + 1)).toArray 42)).heap.size = w.heap.size + 1 + 1 + 1 from by simp)
  rw [show (w.alloc (.cells zeroCf.toArray 36)).heap.size = w.heap.size + 1 by simp] at HA1
  rw [show ((w.alloc (.cells zeroCf.toArray 36)).alloc (.cells #[.int .i64 0] 3)).heap.size = w.heap.size + 1 + 1 by simp] at HA2
  change Hid (Blk (((w.alloc (.cells zeroCf.toArray 36)).alloc (.cells #[.int .i64 0] 3)).alloc (.cells (litRow (w.heap.size + 1)).toArray 42)) _ _ _) at HA1
  generalize ((w.alloc (.cells zeroCf.toArray 36)).alloc (.cells #[.int .i64 0] 3)).alloc (.cells (litRow (w.heap.size + 1)).toArray 42) = W3 at *
  obtain ⟨p0, hp0⟩ : ∃ p0, w.heap.size = p0 := ⟨_, rfl⟩
  have HP0 := Lib.hid hp0
  rw [hp0] at HA0 HA1 HA2 HZ ⊢
  obtain ⟨p1, hp1⟩ : ∃ p1, p0 + 1 = p1 := ⟨_, rfl⟩
  rw [hp1] at HA1 HA2 HZ ⊢
  have HP1 := Lib.hid hp1
  obtain ⟨p2, hp2⟩ : ∃ p2, p1 + 1 = p2 := ⟨_, rfl⟩
  rw [hp2] at HA2 HZ ⊢
  have HP2 := Lib.hid hp2
  obtain ⟨p3, hp3⟩ : ∃ p3, W3.heap.size = p3 := ⟨_, rfl⟩
  rw [hp3] at HZ
  have HP3 := Lib.hid hp3
  clear hp0 hp1 hp2 hp3 HST HB0
  have HB4 := Lib.hid (HA2.out.alloc (.cells #[.string ⟨#[97]⟩, .int .i64 1, .int .i64 0] 45))
  have HLD : Hid ((loadVar 42 ⟨p2, 0, none⟩).run Tryz.prog (W3.alloc (.cells #[.string ⟨#[97]⟩, .int .i64 1, .int .i64 0] 45)) = .ok (.agg #[.string ⟨#[]⟩, .string ⟨#[47]⟩, .slice none 0 0, .string ⟨#[]⟩, .string ⟨#[]⟩, .slice (some ⟨p1, 0, none⟩) 1 1, .int .i64 1, .int .i64 1, .int .i64 1, .int .i64 1, .int .i64 0, .int .i64 1, .int .i64 1, .int .i64 0, .int .i64 0, .int .i64 1, .int .i64 0, .int .i64 0, .int .i64 1, .int .i64 1, .int .i64 1]) (W3.alloc (.cells #[.string ⟨#[97]⟩, .int .i64 1, .int .i64 0] 45))) := Lib.hid (load_row 42 _ (litRow p1) Tryz.underlying42 rfl (by kernel_rfl) (fun j x hj => by rw [Nat.zero_add]; exact HB4.out.cell j x hj))
  have HB5 := Lib.hid ((HA0.out.alloc (.cells #[.string ⟨#[97]⟩, .int .i64 1, .int .i64 0] 45)).alloc (.cells #[.string ⟨#[]⟩, .string ⟨#[47]⟩, .slice none 0 0, .string ⟨#[]⟩, .string ⟨#[]⟩, .slice (some ⟨p1, 0, none⟩) 1 1, .int .i64 1, .int .i64 1, .int .i64 1, .int .i64 1, .int .i64 0, .int .i64 1, .int .i64 1, .int .i64 0, .int .i64 0, .int .i64 1, .int .i64 0, .int .i64 0, .int .i64 1, .int .i64 1, .int .i64 1] 42))
  have HST : Hid ((storeVar 36 ⟨p0, 0, none⟩ (.agg #[.slice (some ⟨W3.heap.size, 0, none⟩) 1 1, .slice (some ⟨W3.heap.size + 1, 0, none⟩) 1 1, .int .i64 0, .int .i64 1, .int .i64 1, .int .i64 1, .string ⟨#[]⟩, .int .i64 0, .int .i64 1, .int .i64 1, .int .i64 0, .int .i64 16, .int .i64 0, .int .i64 1, .int .i64 1, .int .i64 1, .int .i64 1, .int .i64 1])).run Tryz.prog ((W3.alloc (.cells #[.string ⟨#[97]⟩, .int .i64 1, .int .i64 0] 45)).alloc (.cells #[.string ⟨#[]⟩, .string ⟨#[47]⟩, .slice none 0 0, .string ⟨#[]⟩, .string ⟨#[]⟩, .slice (some ⟨p1, 0, none⟩) 1 1, .int .i64 1, .int .i64 1, .int .i64 1, .int .i64 1, .int .i64 0, .int .i64 1, .int .i64 1, .int .i64 0, .int .i64 0, .int .i64 1, .int .i64 0, .int .i64 0, .int .i64 1, .int .i64 1, .int .i64 1] 42)) = .ok () (((W3.alloc (.cells #[.string ⟨#[97]⟩, .int .i64 1, .int .i64 0] 45)).alloc (.cells #[.string ⟨#[]⟩, .string ⟨#[47]⟩, .slice none 0 0, .string ⟨#[]⟩, .string ⟨#[]⟩, .slice (some ⟨p1, 0, none⟩) 1 1, .int .i64 1, .int .i64 1, .int .i64 1, .int .i64 1, .int .i64 0, .int .i64 1, .int .i64 1, .int .i64 0, .int .i64 0, .int .i64 1, .int .i64 0, .int .i64 0, .int .i64 1, .int .i64 1, .int .i64 1] 42)).setRow p0 #[.slice (some ⟨W3.heap.size, 0, none⟩) 1 1, .slice (some ⟨W3.heap.size + 1, 0, none⟩) 1 1, .int .i64 0, .int .i64 1, .int .i64 1, .int .i64 1, .string ⟨#[]⟩, .int .i64 0, .int .i64 1, .int .i64 1, .int .i64 0, .int .i64 16, .int .i64 0, .int .i64 1, .int .i64 1, .int .i64 1, .int .i64 1, .int .i64 1])) := Lib.hid (run_storeVar_row _ p0 36 36 zeroCf.toArray _ HB5.out (by kernel_rfl) rfl (by simp [Value.oneCell']))
  go_wp2_with (first | refine wpList_load_row rfl 42 _ rfl ⟨p2, 0, none⟩ _ rfl HLD.out ?_ | refine wpList_store_row rfl 36 _ _ rfl ⟨p0, 0, none⟩ _ _ rfl rfl HST.out ?_)
  have hn3 : p0 ≠ W3.heap.size := by have := HP1.out; have := HP2.out; have := HZ.out; have := HP3.out; omega
  have hn4 : p0 ≠ W3.heap.size + 1 := by have := HP1.out; have := HP2.out; have := HZ.out; have := HP3.out; omega
  have hn1 : p1 ≠ p0 := by have := HP1.out; omega
  have hs4 : (W3.alloc (.cells #[.string ⟨#[97]⟩, .int .i64 1, .int .i64 0] 45)).heap.size = W3.heap.size + 1 := by simp
  have hF := blk_row (cs := [.slice (some ⟨W3.heap.size, 0, none⟩) 1 1, .slice (some ⟨W3.heap.size + 1, 0, none⟩) 1 1, .int .i64 0, .int .i64 1, .int .i64 1, .int .i64 1, .string ⟨#[]⟩, .int .i64 0, .int .i64 1, .int .i64 1, .int .i64 0, .int .i64 16, .int .i64 0, .int .i64 1, .int .i64 1, .int .i64 1, .int .i64 1, .int .i64 1]) HB5.out
  have hF1 := blk_other (g := p0) (cs := #[.slice (some ⟨W3.heap.size, 0, none⟩) 1 1, .slice (some ⟨W3.heap.size + 1, 0, none⟩) 1 1, .int .i64 0, .int .i64 1, .int .i64 1, .int .i64 1, .string ⟨#[]⟩, .int .i64 0, .int .i64 1, .int .i64 1, .int .i64 0, .int .i64 16, .int .i64 0, .int .i64 1, .int .i64 1, .int .i64 1, .int .i64 1, .int .i64 1]) ((HA1.out.alloc (.cells #[.string ⟨#[97]⟩, .int .i64 1, .int .i64 0] 45)).alloc (.cells #[.string ⟨#[]⟩, .string ⟨#[47]⟩, .slice none 0 0, .string ⟨#[]⟩, .string ⟨#[]⟩, .slice (some ⟨p1, 0, none⟩) 1 1, .int .i64 1, .int .i64 1, .int .i64 1, .int .i64 1, .int .i64 0, .int .i64 1, .int .i64 1, .int .i64 0, .int .i64 0, .int .i64 1, .int .i64 0, .int .i64 0, .int .i64 1, .int .i64 1, .int .i64 1] 42)) hn1
  have hF3 := blk_other (g := p0) (cs := #[.slice (some ⟨W3.heap.size, 0, none⟩) 1 1, .slice (some ⟨W3.heap.size + 1, 0, none⟩) 1 1, .int .i64 0, .int .i64 1, .int .i64 1, .int .i64 1, .string ⟨#[]⟩, .int .i64 0, .int .i64 1, .int .i64 1, .int .i64 0, .int .i64 16, .int .i64 0, .int .i64 1, .int .i64 1, .int .i64 1, .int .i64 1, .int .i64 1]) ((Blk.new W3 [.string ⟨#[97]⟩, .int .i64 1, .int .i64 0] 45).alloc (.cells #[.string ⟨#[]⟩, .string ⟨#[47]⟩, .slice none 0 0, .string ⟨#[]⟩, .string ⟨#[]⟩, .slice (some ⟨p1, 0, none⟩) 1 1, .int .i64 1, .int .i64 1, .int .i64 1, .int .i64 1, .int .i64 0, .int .i64 1, .int .i64 1, .int .i64 0, .int .i64 0, .int .i64 1, .int .i64 0, .int .i64 0, .int .i64 1, .int .i64 1, .int .i64 1] 42)) (fun e => hn3 e.symm)
  have hF4 := Blk.new (W3.alloc (.cells #[.string ⟨#[97]⟩, .int .i64 1, .int .i64 0] 45)) [.string ⟨#[]⟩, .string ⟨#[47]⟩, .slice none 0 0, .string ⟨#[]⟩, .string ⟨#[]⟩, .slice (some ⟨p1, 0, none⟩) 1 1, .int .i64 1, .int .i64 1, .int .i64 1, .int .i64 1, .int .i64 0, .int .i64 1, .int .i64 1, .int .i64 0, .int .i64 0, .int .i64 1, .int .i64 0, .int .i64 0, .int .i64 1, .int .i64 1, .int .i64 1] 42
  rw [hs4] at hF4
  have hF4 := blk_other (g := p0) (cs := #[.slice (some ⟨W3.heap.size, 0, none⟩) 1 1, .slice (some ⟨W3.heap.size + 1, 0, none⟩) 1 1, .int .i64 0, .int .i64 1, .int .i64 1, .int .i64 1, .string ⟨#[]⟩, .int .i64 0, .int .i64 1, .int .i64 1, .int .i64 0, .int .i64 16, .int .i64 0, .int .i64 1, .int .i64 1, .int .i64 1, .int .i64 1, .int .i64 1]) hF4 (fun e => hn4 e.symm)
  have hFC := chg_row (g := p0) (cs := #[.slice (some ⟨W3.heap.size, 0, none⟩) 1 1, .slice (some ⟨W3.heap.size + 1, 0, none⟩) 1 1, .int .i64 0, .int .i64 1, .int .i64 1, .int .i64 1, .string ⟨#[]⟩, .int .i64 0, .int .i64 1, .int .i64 1, .int .i64 0, .int .i64 16, .int .i64 0, .int .i64 1, .int .i64 1, .int .i64 1, .int .i64 1, .int .i64 1]) ((HC.out.alloc (.cells #[.string ⟨#[97]⟩, .int .i64 1, .int .i64 0] 45)).alloc (.cells #[.string ⟨#[]⟩, .string ⟨#[47]⟩, .slice none 0 0, .string ⟨#[]⟩, .string ⟨#[]⟩, .slice (some ⟨p1, 0, none⟩) 1 1, .int .i64 1, .int .i64 1, .int .i64 1, .int .i64 1, .int .i64 0, .int .i64 1, .int .i64 1, .int .i64 0, .int .i64 0, .int .i64 1, .int .i64 0, .int .i64 0, .int .i64 1, .int .i64 1, .int .i64 1] 42)) (by rw [HP0.out]; exact Nat.le_refl _)
  refine bodyPost_ret (results38 _ _ p0 _ rfl hF rfl) rfl ⟨⟨W3.heap.size, W3.heap.size + 1, p1, rfl, Lib.hid hF1, Lib.hid hF3, Lib.hid hF4, ?_, by omega, ?_⟩, Lib.hid hFC⟩
  · have := HC.out.size
    omega
  · have := HP2.out; have := HZ.out; have := HP3.out
    omega
end Go.Proofs.YtjndgkbikhndoaaGreatDoor

namespace Go.Proofs.YtjndgkbikhndoaaGreatDoor
open Go.RowKit Go.ChangeShapes Go.WideShapes
set_option linter.unusedVariables false

/-- A whole row is loaded by an operation whose guard says yes. -/
theorem wpList_load_want {w : World} {ops : Array Oper} {rest : List Oper} {o : Oper} {a : Go.Act} {Q : Exit → Go.Act → World → Prop} (hw : Region.wanted o (yielded ops a.tmps) = true) (T : TypeId) (x : Operand) (ho : o.op = .load T x) (p : Addr) (v : Value)
    (hx : a.eval x = .pointer (some p)) (hr : (loadVar T p).run Tryz.prog w = .ok v w) (h : wpList Tryz.prog ops Q rest (a.put o.dst v) w) : wpList Tryz.prog ops Q (o :: rest) a w := by
  refine wpList_step fun K hK => ?_
  rw [if_pos hw]
  unfold Oper.wp execOp
  simp only [ho, hx, Instr.loadAt, Instr.sureAddr, Sem.run_bind, Sem.run_pure, Result.andThen_ok, hr]
  exact hK _ _ h
set_option maxHeartbeats 8000000 in
set_option maxRecDepth 100000 in
theorem cspeaks_any (w : World) (hE : Hid (Env w)) :
    Calls Tryz.prog 18 #[] w fun e w' => e = .returned (.bool true) ∧ Hid (Chg [] w w') := by
  go_enter Tryz.func18, Tryz.ntmps18
  go_wp2_with fail
  refine (little_any _).mono ?_
  rintro e W1 ⟨⟨p3, p4, p1, rfl, HB1, HB3, HB4, g4, n43, n41⟩, H1⟩
  have HST := Lib.hid (run_storeVar_new (P := Tryz.prog) W1 36 zeroCf.toArray (cfRow (litC 1) (.slice (some ⟨p3, 0, none⟩) 1 1) (.slice (some ⟨p4, 0, none⟩) 1 1)).toArray (by kernel_rfl) rfl (by simp [Value.oneCell', cfRow, litC]))
  have HG := Lib.hid (And.intro g4 (And.intro n43 n41))
  clear g4 n43 n41
  go_upto_region 2 with (refine wpList_store_row rfl 36 _ _ rfl ⟨W1.heap.size, 0, none⟩ _ _ rfl rfl HST.out ?_)
  have HC2 := Lib.hid (H1.out.alloc (.cells (cfRow (litC 1) (.slice (some ⟨p3, 0, none⟩) 1 1) (.slice (some ⟨p4, 0, none⟩) 1 1)).toArray 36))
  have HX1 := Lib.hid (HB1.out.alloc (.cells (cfRow (litC 1) (.slice (some ⟨p3, 0, none⟩) 1 1) (.slice (some ⟨p4, 0, none⟩) 1 1)).toArray 36))
  have HX3 := Lib.hid (HB3.out.alloc (.cells (cfRow (litC 1) (.slice (some ⟨p3, 0, none⟩) 1 1) (.slice (some ⟨p4, 0, none⟩) 1 1)).toArray 36))
  have HX4 := Lib.hid (HB4.out.alloc (.cells (cfRow (litC 1) (.slice (some ⟨p3, 0, none⟩) 1 1) (.slice (some ⟨p4, 0, none⟩) 1 1)).toArray 36))
  have HXb := Lib.hid (Blk.new W1 (cfRow (litC 1) (.slice (some ⟨p3, 0, none⟩) 1 1) (.slice (some ⟨p4, 0, none⟩) 1 1)) 36)
  have HN := Lib.hid HB4.out.lt
  generalize W1.alloc (.cells (cfRow (litC 1) (.slice (some ⟨p3, 0, none⟩) 1 1) (.slice (some ⟨p4, 0, none⟩) 1 1)).toArray 36) = W2 at *
  generalize W1.heap.size = b at *
  clear HST HB1 HB3 HB4 H1
  have HLD := Lib.hid (fun (W : World) (hb : Blk W b (cfRow (litC 1) (.slice (some ⟨p3, 0, none⟩) 1 1) (.slice (some ⟨p4, 0, none⟩) 1 1)) 36) => load_row (w := W) 36 _ (cfRow (litC 1) (.slice (some ⟨p3, 0, none⟩) 1 1) (.slice (some ⟨p4, 0, none⟩) 1 1)) Tryz.underlying36 rfl (by kernel_rfl) (fun j x hj => by rw [Nat.zero_add]; exact hb.cell j x hj))
  have HL2 := Lib.hid (HLD.out _ HXb.out)
  go_wp2_with (first | refine wpList_load_row rfl 36 _ rfl ⟨b, 0, none⟩ _ rfl HL2.out ?_ | refine wpList_load_want (by rfl) 36 _ rfl ⟨b, 0, none⟩ _ rfl HL2.out ?_)
  refine (conns_any (litC 1) _ _ _ _ (Lib.hid (hE.out.chg HC2.out)) (Lib.hid (lit_at HX1.out HX3.out HX4.out)) (Lib.hid (lit_sz 1)) true lit_right).mono ?_
  rintro e W3 ⟨rfl, H3⟩
  rw [lit_conns, show okN true 3 = 3 from rfl, show ok3 true = 0 from rfl]
  have HC3 := Lib.hid (HC2.out.trans H3.out (by simp))
  have HY1 := Lib.hid (HX1.out.chg H3.out (by simp))
  have HY3 := Lib.hid (HX3.out.chg H3.out (by simp))
  have HY4 := Lib.hid (HX4.out.chg H3.out (by simp))
  have HYb := Lib.hid (HXb.out.chg H3.out (by simp))
  have HL3 := Lib.hid (HLD.out _ HYb.out)
  clear HX1 HX3 HX4 HXb HL2
  go_wp2_with (first | refine wpList_load_row rfl 36 _ rfl ⟨b, 0, none⟩ _ rfl HL3.out ?_ | refine wpList_load_want (by rfl) 36 _ rfl ⟨b, 0, none⟩ _ rfl HL3.out ?_)
  refine (check_any (litC 1) _ _ _ _ (Lib.hid (hE.out.chg HC3.out)) (Lib.hid (lit_at HY1.out HY3.out HY4.out)) (Lib.hid (lit_sz 1)) true lit_right).mono ?_
  rintro e W4 ⟨rfl, H4⟩
  rw [show ok3 true = 0 from rfl]
  have HC4 := Lib.hid (HC3.out.trans H4.out (by simp))
  have HZ1 := Lib.hid (HY1.out.chg H4.out (by simp))
  have HZ3 := Lib.hid (HY3.out.chg H4.out (by simp))
  have HZ4 := Lib.hid (HY4.out.chg H4.out (by simp))
  have HZb := Lib.hid (HYb.out.chg H4.out (by simp))
  have c1 := HZb.out.cell 1 _ rfl
  have d7 := HZ4.out.cell 7 _ rfl
  have f7 := HZ4.out.free 7
  clear HY1 HY3 HY4 HYb HL3
  go_upto_region 5 with fail
  obtain ⟨g4, n43, n41⟩ := HG.out
  have hn := HN.out
  have HS4 : Hid (Blk (W4.setCell ⟨p4, 7, none⟩ (.int .i64 0)) p4 (rtRow (litR 0) (.slice none 0 0) (.slice (some ⟨p1, 0, none⟩) 1 1)) 42) := Lib.hid (HZ4.out.set 7 (.int .i64 0))
  have HS1 := Lib.hid (HZ1.out.other (a := ⟨p4, 7, none⟩) (by show p1 ≠ p4; exact fun e => n41 e.symm) (.int .i64 0))
  have HS3 := Lib.hid (HZ3.out.other (a := ⟨p4, 7, none⟩) (by show p3 ≠ p4; exact fun e => n43 e.symm) (.int .i64 0))
  have HSb := Lib.hid (HZb.out.other (a := ⟨p4, 7, none⟩) (by show b ≠ p4; omega) (.int .i64 0))
  have HC5 := Lib.hid (HC4.out.setCell (p := ⟨p4, 7, none⟩) (by intro q; have : p4 < w.heap.size := q; omega) (.int .i64 0))
  clear c1 d7 f7 HZ1 HZ3 HZ4 HZb g4 n43 n41 hn
  generalize W4.setCell ⟨p4, 7, none⟩ (.int .i64 0) = W5 at *
  have HL5 := Lib.hid (HLD.out _ HSb.out)
  go_wp2_with (first | refine wpList_load_row rfl 36 _ rfl ⟨b, 0, none⟩ _ rfl HL5.out ?_ | refine wpList_load_want (by rfl) 36 _ rfl ⟨b, 0, none⟩ _ rfl HL5.out ?_)
  refine (check_any (litC 0) _ _ _ _ (Lib.hid (hE.out.chg HC5.out)) (Lib.hid (lit_at HS1.out HS3.out HS4.out)) (Lib.hid (lit_sz 0)) false lit_wrong).mono ?_
  rintro e W6 ⟨rfl, H6⟩
  rw [show ok3 false = 3 from rfl]
  go_wp2_with fail
  go_ret
  exact ⟨rfl, HC5.out.trans H6.out (by simp)⟩
end Go.Proofs.YtjndgkbikhndoaaGreatDoor

namespace Go.Proofs.YtjndgkbikhndoaaGreatDoor
open Go.RowKit Go.ChangeShapes Go.WideShapes
set_option linter.unusedVariables false

/-- A table from block B on, of a call's own making. -/
def OwnT (B e k : Nat) (w : World) (v : Value) (rows : List (List Value)) : Prop := w.ownsRow B e k v rows.length rows.flatten
theorem OwnT.nil (B e k : Nat) (w : World) : OwnT B e k w (.slice none 0 0) [] := World.ownsRow_nil _ _ _ _
theorem OwnT.form {B e k : Nat} {w : World} {v : Value} {rows : List (List Value)} (h : OwnT B e k w v rows) : ∃ A cap, v = .slice A rows.length cap := by
  rcases h.2 with ⟨rfl, h0⟩ | ⟨g, cap, cur, rfl, _⟩
  · exact ⟨none, 0, by rw [h0]⟩
  · exact ⟨_, cap, rfl⟩
theorem OwnT.chg {B e k : Nat} {w w' : World} {v : Value} {rows : List (List Value)} (h : OwnT B e k w v rows) (hc : Chg [] w w') : OwnT B e k w' v rows := ownsRow_chg h hc
theorem OwnT.own_lt {B e k : Nat} {w : World} {v : Value} {rows : List (List Value)} (h : OwnT B e k w v rows) : ∀ q, v.ownBlock = some q → B ≤ q ∧ q < w.heap.size := fun q hq => World.ownsRow.lt h q hq
theorem OwnT.tbl {B e k : Nat} {w : World} {v : Value} {rows : List (List Value)} (h : OwnT B e k w v rows) (hk : ∀ r, r ∈ rows → r.length = k) : Tbl w v k rows := by
  rcases h.2 with ⟨rfl, h0⟩ | ⟨g, cap, cur, rfl, hb, hh, h1, h2, h3, h4⟩
  · exact ⟨none, 0, by rw [h0], by rw [h0]; exact Nat.le_refl _, fun h => by omega⟩
  · refine ⟨_, cap, rfl, h1, fun _ => ⟨g, 0, rfl, lt_of_block hh, fun i r hr j x hj => ?_⟩⟩
    have hx := flat_get rows hk i r j x hr hj
    rw [← h4, List.getElem?_take] at hx
    split at hx
    · rw [Nat.zero_add]
      simp only [World.cell?, hh]
      simpa using hx
    · cases hx
theorem run_pushT (T e k bytes : Nat) (zv : Value) (ty B : Nat) (w : World) (v : Value) (rows : List (List Value)) (r : List Value) (ad : Nat) (hT : Tryz.prog.underlying T = some (.slice e))
    (hinfo : (Tryz.prog.info? e).map (fun i => (i.zero, i.size, i.bytes)) = some (some zv, k, bytes)) (hzk : zv.cells.size = k) (hk0 : 0 < k) (ho : OwnT B e k w v rows) (hc : Blk w ad r e) (hr : r.length = k) (h1 : ∀ u, u ∈ r → u.oneCell' = true)
    (hl : rows.length ≤ 4000000) (hby : (rows.length + 1) * bytes ≤ 140737488355328) (hB : B ≤ w.heap.size) :
    ∃ v' w', (Builtin.append_ #[T, T] ty #[v, .slice (some ⟨ad, 0, none⟩) 1 1]).run Tryz.prog w = .ok v' w' ∧ OwnT B e k w' v' (rows ++ [r]) ∧ w.grownBy w' v.ownBlock := by
  obtain ⟨i0, hi, hz0, hz1, hz2⟩ := info_parts hinfo
  obtain ⟨v', w', q1, q2, q3, _⟩ := run_append_own (P := Tryz.prog) w B T ty e i0 _ k bytes hT hi hz0 hz1 hz2 hzk hk0 v rows.length _ ho ⟨ad, 0, none⟩ 1 1 r (by rw [hr, Nat.one_mul]) (fun j u hj => by
    rw [Addr.add_lit, Nat.zero_add]
    exact hc.cell j u hj) h1 (by unfold maxLen; omega) hby hB
  refine ⟨v', w', q1, ?_, q3⟩
  unfold OwnT
  rw [List.length_append, List.flatten_append]
  simpa using q2
/-- append, in the list of a plain region's operations. -/
theorem wpList_appT {w : World} {ops : Array Oper} {rest : List Oper} {o : Oper} {a : Go.Act} {Q : Exit → Go.Act → World → Prop} (hgd : o.guard = none) (T : TypeId) (s x : Operand)
    (ho : o.op = .call { callee := .builtin .append, args := #[s, x], argTypes := #[T, T] }) (v u : Value) (hs : a.eval s = v) (hx : a.eval x = u) (v' : Value) (w' : World)
    (hr : (Builtin.append_ #[T, T] o.type #[v, u]).run Tryz.prog w = .ok v' w') (h : wpList Tryz.prog ops Q rest (a.put o.dst v') w') : wpList Tryz.prog ops Q (o :: rest) a w := by
  refine wpList_plain hgd fun K hK => ?_
  unfold Oper.wp execOp
  simp only [ho, resolve, invoke, builtin, Sem.run_bind, Sem.run_pure, Result.andThen_ok, List.map_toArray, List.map_cons, List.map_nil, hs, hx, hr]
  exact hK _ _ h
theorem info45 : (Tryz.prog.info? 45).map (fun i => (i.zero, i.size, i.bytes)) = some (some (.agg #[.string ⟨#[]⟩, .int .i64 0, .int .i64 0]), 3, 32) := by kernel_rfl
theorem info42 : (Tryz.prog.info? 42).map (fun i => (i.zero, i.size, i.bytes)) = some (some (.agg #[.string ⟨#[]⟩, .string ⟨#[]⟩, .slice none 0 0, .string ⟨#[]⟩, .string ⟨#[]⟩, .slice none 0 0, .int .i64 0, .int .i64 0, .int .i64 0, .int .i64 0, .int .i64 0, .int .i64 0, .int .i64 0, .int .i64 0, .int .i64 0, .int .i64 0, .int .i64 0, .int .i64 0, .int .i64 0, .int .i64 0, .int .i64 0]), 21, 232) := by kernel_rfl
theorem rev_get {α : Type} {l : List α} {k : Nat} {x : α} (h : l[l.length - 1 - k]? = some x) (hk : k < l.length) : (l.reverse)[k]? = some x := by
  rw [List.getElem?_reverse hk]
  exact h
theorem take_rev_succ {α : Type} {l : List α} {k : Nat} {x : α} (h : l[l.length - 1 - k]? = some x) (hk : k < l.length) : (l.reverse).take (k + 1) = (l.reverse).take k ++ [x] := by
  rw [List.take_add_one, rev_get h hk]
  rfl
end Go.Proofs.YtjndgkbikhndoaaGreatDoor

namespace Go.Proofs.YtjndgkbikhndoaaGreatDoor
open Go.RowKit Go.ChangeShapes Go.WideShapes
set_option linter.unusedVariables false
set_option linter.unusedSimpArgs false

def mostK (c : Cf) (k : Nat) : Int := (c.routes.take k).foldl (fun m r => max m (r.retries + r.hedges + 1)) 0
theorem mostK_succ {c : Cf} {k : Nat} {x : Rt} (h : c.routes[k]? = some x) : mostK c (k + 1) = max (mostK c k) (x.retries + x.hedges + 1) := by
  unfold mostK
  rw [List.take_add_one, h, List.foldl_append]
  rfl
theorem mostK_all (c : Cf) : mostK c c.routes.length = mostN c := by
  unfold mostK mostN
  rw [List.take_length]
theorem Rgt.tries {c : Cf} (h : Rgt c) : ∀ x, x ∈ c.routes → (0 ≤ x.retries ∧ x.retries ≤ 5) ∧ (0 ≤ x.hedges ∧ x.hedges ≤ 3) := by
  intro x hx
  have := List.all_eq_true.1 h.ro x hx
  unfold routeOK at this
  simp only [Bool.and_eq_true] at this
  have := this.2
  unfold allR Rt.nums inR M6 at this
  simp at this
  omega
set_option maxHeartbeats 8000000 in
set_option maxRecDepth 100000 in
theorem timers_any (c : Cf) (hv rv : Value) (ps : List (Value × Value)) (w : World) (hE : Hid (Env w)) (hC : Hid (CfAt w c hv rv ps)) (hS : Hid (CfSz c)) (z : Bool) (hz : rightB c = z) :
    Calls Tryz.prog 21 #[.agg (cfRow c hv rv).toArray] w fun e w' => e = .returned (.tuple #[.int .i64 (okN z (timersN c)), .int .i64 (ok3 z)]) ∧ Hid (Chg [] w w') := by
  have hl1 : (c.hosts.map htRow).length = c.hosts.length := List.length_map _
  obtain ⟨A, cap, rfl⟩ := hC.out.hs.form
  rw [hl1] at hC ⊢
  have hl2 : ((c.routes.zip ps).map (fun x => rtRow x.1 x.2.1 x.2.2)).length = c.routes.length := by
    have := hC.out.rs.len
    rw [List.length_map, List.length_zip]
    omega
  obtain ⟨A2, cap2, rfl⟩ := hC.out.rs.tb.form
  rw [hl2] at hC ⊢
  have HL2 := Lib.hid hl2
  clear hl2
  obtain ⟨rv0, hrv⟩ : ∃ rv0, Value.slice A2 c.routes.length cap2 = rv0 := ⟨_, rfl⟩
  have HRV := Lib.hid hrv
  clear hrv
  have HCK := Lib.hid (fun W (hc : Hid (Chg [] w W)) => check_any c (.slice A c.hosts.length cap) (.slice A2 c.routes.length cap2) ps W (Lib.hid (hE.out.chg hc.out)) (Lib.hid (hC.out.chg hc.out)) hS z hz)
  have HB0 := Lib.hid (Blk.new w (cfRow c (.slice A c.hosts.length cap) (.slice A2 c.routes.length cap2)) 36)
  have HC0 := Lib.hid ((Chg.refl [] w).alloc (.cells (cfRow c (.slice A c.hosts.length cap) (.slice A2 c.routes.length cap2)).toArray 36))
  have HRG := Lib.hid (fun h : z = true => rgt_of (hz.trans h))
  clear hl1 hz
  change Calls Tryz.prog 21 #[.agg #[.slice A c.hosts.length cap, .slice A2 c.routes.length cap2, .int .i64 c.every, .int .i64 c.timeout, .int .i64 c.up, .int .i64 c.down, .string c.path, .int .i64 c.fails, .int .i64 c.base, .int .i64 c.longest, .int .i64 c.share, .int .i64 c.maxHead, .int .i64 c.maxBody, .int .i64 c.maxOut, .int .i64 c.headTime, .int .i64 c.idle, .int .i64 c.life, .int .i64 c.clients]] w _
  go_enter Tryz.func21, Tryz.ntmps21
  go_upto_region 1 with fail
  change Hid (Blk (w.alloc (.cells #[.slice A c.hosts.length cap, .slice A2 c.routes.length cap2, .int .i64 c.every, .int .i64 c.timeout, .int .i64 c.up, .int .i64 c.down, .string c.path, .int .i64 c.fails, .int .i64 c.base, .int .i64 c.longest, .int .i64 c.share, .int .i64 c.maxHead, .int .i64 c.maxBody, .int .i64 c.maxOut, .int .i64 c.headTime, .int .i64 c.idle, .int .i64 c.life, .int .i64 c.clients] 36)) _ _ _) at HB0
  change Hid (Chg [] w (w.alloc (.cells #[.slice A c.hosts.length cap, .slice A2 c.routes.length cap2, .int .i64 c.every, .int .i64 c.timeout, .int .i64 c.up, .int .i64 c.down, .string c.path, .int .i64 c.fails, .int .i64 c.base, .int .i64 c.longest, .int .i64 c.share, .int .i64 c.maxHead, .int .i64 c.maxBody, .int .i64 c.maxOut, .int .i64 c.headTime, .int .i64 c.idle, .int .i64 c.life, .int .i64 c.clients] 36))) at HC0
  generalize w.alloc (.cells #[.slice A c.hosts.length cap, .slice A2 c.routes.length cap2, .int .i64 c.every, .int .i64 c.timeout, .int .i64 c.up, .int .i64 c.down, .string c.path, .int .i64 c.fails, .int .i64 c.base, .int .i64 c.longest, .int .i64 c.share, .int .i64 c.maxHead, .int .i64 c.maxBody, .int .i64 c.maxOut, .int .i64 c.headTime, .int .i64 c.idle, .int .i64 c.life, .int .i64 c.clients] 36) = W1 at HB0 HC0 ⊢
  generalize w.heap.size = b at HB0 ⊢
  have HLD := Lib.hid (load_row 36 _ (cfRow c (.slice A c.hosts.length cap) (.slice A2 c.routes.length cap2)) Tryz.underlying36 rfl (by kernel_rfl) (fun j x hj => by rw [Nat.zero_add]; exact HB0.out.cell j x hj))
  go_wp2_with (refine wpList_load_row rfl 36 _ rfl ⟨b, 0, none⟩ _ rfl HLD.out ?_)
  refine (HCK.out _ HC0).mono ?_
  rintro e W2 ⟨rfl, H2⟩
  have HB := Lib.hid (HB0.out.chg H2.out (by simp))
  have HC := Lib.hid (HC0.out.trans H2.out (by simp))
  cases z
  · rw [show ok3 false = 3 from rfl]
    go_wp2_with fail
    go_ret2
    exact ⟨rfl, HC.out⟩
  · rw [show ok3 true = 0 from rfl]
    have hR := HRG.out rfl
    have hn := hR.nums
    have hcn := hR.capsN
    have h16 := hR.h2
    have r16 := hR.r2
    have HTR := Lib.hid hR.tries
    have HT0 := Lib.hid (show HtsAt W2 c (.slice A c.hosts.length cap) from ⟨hC.out.hs.chg HC.out, hR.h2, hR.caps⟩)
    have HTN := Lib.hid (show timersN c = 4 * c.clients + 3 * capsN c + 3 * c.hosts.length + mostN c * c.clients from rfl)
    have HMA := Lib.hid (mostK_all c)
    obtain ⟨K, hK⟩ : ∃ K, capsN c = K := ⟨_, rfl⟩
    rw [hK] at hcn
    have HKK := Lib.hid hK
    have HCN := Lib.hid hcn
    have HN := Lib.hid hn
    have HBo := HB
    have c1 := HB.out.cell 1 _ rfl
    have hcap2 := hC.out.rs.tb.cap
    clear hK hR hn hcn HB0 HC0
    go_wp2_with fail
    clear c1
    go_loopw [5, 16] (fun s i wr => ∃ (k : Nat) (n : Int), i = .int .i64 k ∧ k ≤ c.routes.length ∧ s = .int .i64 n ∧ Hid (mostK c k = n) ∧ 0 ≤ n ∧ n ≤ 9 ∧ Hid (Chg [] W2 wr)) (fun _ i _ => c.routes.length - (intOf i).toNat)
    case atStart => exact ⟨0, 0, rfl, by omega, rfl, Lib.hid rfl, by omega, by omega, Lib.hid (Chg.refl _ _)⟩
    case round =>
      obtain ⟨k2, n, rfl, hk2, rfl, HM, n0, n1, HCk⟩ := hrel
      have HCr := Lib.hid (HC.out.trans HCk.out (by simp))
      by_cases hlt2 : k2 < c.routes.length
      · obtain ⟨r, hr⟩ : ∃ r, c.routes[k2]? = some r := ⟨_, List.getElem?_eq_getElem hlt2⟩
        obtain ⟨p, hp⟩ : ∃ p, ps[k2]? = some p := ⟨_, List.getElem?_eq_getElem (by rw [hC.out.rs.len]; exact hlt2)⟩
        have hrow : ((c.routes.zip ps).map (fun x => rtRow x.1 x.2.1 x.2.2))[k2]? = some (rtRow r p.1 p.2) := by
          rw [List.getElem?_map, (List.getElem?_zip_eq_some (z := (r, p))).2 ⟨hr, hp⟩]
          rfl
        have HRA := Lib.hid (hC.out.rs.each k2 r p hr hp)
        obtain ⟨p1, p2⟩ := p
        dsimp only at HRA hrow
        obtain ⟨Am, cm, rfl⟩ := HRA.out.ms.form
        obtain ⟨Ah, ch, rfl⟩ := HRA.out.hs.form
        generalize hlm : (strRows r.m.methods).length = lm at *
        generalize hlh : (intRows r.hosts).length = lh at *
        clear hlm hlh
        obtain ⟨A3, cap3, e3, -, h3⟩ := hC.out.rs.tb
        injection e3 with e31 e32 e33
        subst e31
        obtain ⟨br, or, rfl, hbr, hx⟩ := h3 (by rw [HL2.out]; omega)
        have HLDr := Lib.hid (load_row 42 _ (rtRow r (.slice Am lm cm) (.slice Ah lh ch)) Tryz.underlying42 rfl (by kernel_rfl) (fun j x hj => HCr.out.cell (hx k2 _ hrow j x hj) (by simp)))
        have HST := Lib.hid (run_storeVar_new (P := Tryz.prog) wr 42 zeroRt (rtRow r (.slice Am lm cm) (.slice Ah lh ch)).toArray (by kernel_rfl) rfl (by simp [Value.oneCell', rtRow]))
        have hsu := mostK_succ hr
        rw [HM.out] at hsu
        have HSU := Lib.hid hsu
        have htr := HTR.out r (List.mem_of_getElem? hr)
        have hw1 : IntKind.i64.wrap (r.retries + r.hedges) = r.retries + r.hedges := wrap_in (by omega) (by omega)
        have hw2 : IntKind.i64.wrap (r.retries + r.hedges + 1) = r.retries + r.hedges + 1 := wrap_in (by omega) (by omega)
        clear hx hrow hr hp h3 e32 e33 hbr hsu
        go_upto_region 8 with (first | refine wpList_load_row rfl 42 _ rfl ⟨br, or + k2 * 21, none⟩ _ rfl HLDr.out ?_ | refine wpList_store_row rfl 42 _ _ rfl ⟨wr.heap.size, 0, none⟩ _ _ rfl rfl HST.out ?_)
        have HBL := Lib.hid (Blk.new wr (rtRow r (.slice Am lm cm) (.slice Ah lh ch)) 42)
        have HCz := Lib.hid (HCk.out.alloc (.cells (rtRow r (.slice Am lm cm) (.slice Ah lh ch)).toArray 42))
        generalize wr.alloc (.cells (rtRow r (.slice Am lm cm) (.slice Ah lh ch)).toArray 42) = Wz at HBL HCz ⊢
        generalize wr.heap.size = p at HBL ⊢
        have q16 := HBL.out.cell 16 _ rfl
        have q17 := HBL.out.cell 17 _ rfl
        clear HLDr HST HBL
        go_wp2_with fail
        go_roundw
        case rel => exact ⟨k2 + 1, max n (r.retries + r.hedges + 1), by go_num, by omega, by first | rfl | go_num, HSU, by omega, by omega, HCz⟩
        case measure => simp [intOf]; omega
      · obtain rfl : k2 = c.routes.length := by omega
        have HMM := Lib.hid (show mostN c = n from by rw [← HM.out, HMA.out])
        have HC := HCr
        have HB := Lib.hid (HBo.out.chg HCk.out (by simp))
        have HT := Lib.hid (HT0.out.chg HCk.out)
        have hn := HN.out
        have hcn := HCN.out
        have hm1 := mul_bd (a := n) (b := c.clients) (m := 9) (n := 256) (by omega) (by omega) (by omega) (by omega)
        have hw1 : IntKind.i64.wrap (4 * c.clients) = 4 * c.clients := wrap_in (by omega) (by omega)
        have hw2 : IntKind.i64.wrap (3 * K) = 3 * K := wrap_in (by omega) (by omega)
        have hw3 : IntKind.i64.wrap (4 * c.clients + 3 * K) = 4 * c.clients + 3 * K := wrap_in (by omega) (by omega)
        have hw4 : IntKind.i64.wrap (3 * (c.hosts.length : Int)) = 3 * (c.hosts.length : Int) := wrap_in (by omega) (by omega)
        have hw5 : IntKind.i64.wrap (4 * c.clients + 3 * K + 3 * (c.hosts.length : Int)) = 4 * c.clients + 3 * K + 3 * (c.hosts.length : Int) := wrap_in (by omega) (by omega)
        have hw6 : IntKind.i64.wrap (n * c.clients) = n * c.clients := wrap_in (by omega) (by omega)
        have hw7 : IntKind.i64.wrap (4 * c.clients + 3 * K + 3 * (c.hosts.length : Int) + n * c.clients) = 4 * c.clients + 3 * K + 3 * (c.hosts.length : Int) + n * c.clients := wrap_in (by omega) (by omega)
        clear hn hcn hm1 HCr
        go_wp2_with fail
        refine wp_region_held_drew (S := fun W => Hid (Blk W b (cfRow c (.slice A c.hosts.length cap) (.slice A2 c.routes.length cap2)) 36)) (by kernel_rfl) (Lib.hid (HB.out.chg (Chg.refl [] _).drew (by simp))) (fun hHeld => ?_)
        refine wpAnyH_take (i := 0) (oi := ?oi0) (v := (.pointer (some ⟨b, 17, none⟩))) ?hi0 (by kernel_rfl) (by kernel_rfl) (by kernel_rfl) ?hQ0 ?hy0 hHeld ?rest0
        case hi0 =>
          simp only [List.getElem?_toArray, List.getElem?_cons_zero]
          rfl
        case hQ0 => exact fun _ _ _ h => h
        case hy0 =>
          refine Or.inl ⟨by rfl, ?_⟩
          intro w hSw
          go_simp
        try simp only [Act.put, List.setIfInBounds_toArray, List.set_cons_zero, List.set_cons_succ]
        refine wpAnyH_take (i := 1) (oi := ?oi1) (v := (.int .i64 c.clients)) ?hi1 (by kernel_rfl) (by kernel_rfl) (by kernel_rfl) ?hQ1 ?hy1 hHeld ?rest1
        case hi1 =>
          simp only [List.getElem?_toArray, List.getElem?_cons_succ, List.getElem?_cons_zero]
          rfl
        case hQ1 => exact fun _ _ _ h => h
        case hy1 =>
          refine Or.inl ⟨by rfl, ?_⟩
          intro w hSw
          have hcc := hSw.out.cell 17 _ rfl
          go_simp
        try simp only [Act.put, List.setIfInBounds_toArray, List.set_cons_zero, List.set_cons_succ]
        refine wpAnyH_take (i := 2) (oi := ?oi2) (v := (.int .i64 (4 * c.clients))) ?hi2 (by kernel_rfl) (by kernel_rfl) (by kernel_rfl) ?hQ2 ?hy2 hHeld ?rest2
        case hi2 =>
          simp only [List.getElem?_toArray, List.getElem?_cons_succ, List.getElem?_cons_zero]
          rfl
        case hQ2 => exact fun _ _ _ h => h
        case hy2 =>
          refine Or.inl ⟨by rfl, ?_⟩
          intro w hSw
          go_simp
        try simp only [Act.put, List.setIfInBounds_toArray, List.set_cons_zero, List.set_cons_succ]
        refine wpAnyH_take (i := 3) (oi := ?oi3) (v := .agg (cfRow c (.slice A c.hosts.length cap) (.slice A2 c.routes.length cap2)).toArray) ?hi3 (by kernel_rfl) (by kernel_rfl) (by kernel_rfl) ?hQ3 ?hy3 hHeld ?rest3
        case hi3 =>
          simp only [List.getElem?_toArray, List.getElem?_cons_succ, List.getElem?_cons_zero]
          rfl
        case hQ3 => exact fun _ _ _ h => h
        case hy3 =>
          exact yields_row (by rfl) 36 _ rfl ⟨b, 0, none⟩ _ rfl (fun w hSw => load_row 36 _ (cfRow c (.slice A c.hosts.length cap) (.slice A2 c.routes.length cap2)) Tryz.underlying36 rfl (by kernel_rfl) (fun j x hj => by rw [Nat.zero_add]; exact hSw.out.cell j x hj))
        try simp only [Act.put, List.setIfInBounds_toArray, List.set_cons_zero, List.set_cons_succ]
        refine wpAnyH_take (i := 7) (oi := ?oi7) (v := (.pointer (some ⟨b, 0, none⟩))) ?hi7 (by kernel_rfl) (by kernel_rfl) (by kernel_rfl) ?hQ7 ?hy7 hHeld ?rest7
        case hi7 =>
          simp only [List.getElem?_toArray, List.getElem?_cons_succ, List.getElem?_cons_zero]
          rfl
        case hQ7 => exact fun _ _ _ h => h
        case hy7 =>
          refine Or.inl ⟨by rfl, ?_⟩
          intro w hSw
          go_simp
        try simp only [Act.put, List.setIfInBounds_toArray, List.set_cons_zero, List.set_cons_succ]
        refine wpAnyH_take (i := 8) (oi := ?oi8) (v := (.slice A c.hosts.length cap)) ?hi8 (by kernel_rfl) (by kernel_rfl) (by kernel_rfl) ?hQ8 ?hy8 hHeld ?rest8
        case hi8 =>
          simp only [List.getElem?_toArray, List.getElem?_cons_succ, List.getElem?_cons_zero]
          rfl
        case hQ8 => exact fun _ _ _ h => h
        case hy8 =>
          refine Or.inl ⟨by rfl, ?_⟩
          intro w hSw
          have hcc := hSw.out.cell 0 _ rfl
          go_simp
        try simp only [Act.put, List.setIfInBounds_toArray, List.set_cons_zero, List.set_cons_succ]
        refine wpAnyH_take (i := 9) (oi := ?oi9) (v := (.int .i64 (c.hosts.length : Int))) ?hi9 (by kernel_rfl) (by kernel_rfl) (by kernel_rfl) ?hQ9 ?hy9 hHeld ?rest9
        case hi9 =>
          simp only [List.getElem?_toArray, List.getElem?_cons_succ, List.getElem?_cons_zero]
          rfl
        case hQ9 => exact fun _ _ _ h => h
        case hy9 =>
          refine Or.inl ⟨by rfl, ?_⟩
          intro w hSw
          go_simp
        try simp only [Act.put, List.setIfInBounds_toArray, List.set_cons_zero, List.set_cons_succ]
        refine wpAnyH_take (i := 10) (oi := ?oi10) (v := (.int .i64 (3 * (c.hosts.length : Int)))) ?hi10 (by kernel_rfl) (by kernel_rfl) (by kernel_rfl) ?hQ10 ?hy10 hHeld ?rest10
        case hi10 =>
          simp only [List.getElem?_toArray, List.getElem?_cons_succ, List.getElem?_cons_zero]
          rfl
        case hQ10 => exact fun _ _ _ h => h
        case hy10 =>
          refine Or.inl ⟨by rfl, ?_⟩
          intro w hSw
          go_simp
        try simp only [Act.put, List.setIfInBounds_toArray, List.set_cons_zero, List.set_cons_succ]
        refine wpAnyH_take (i := 12) (oi := ?oi12) (v := (.int .i64 n)) ?hi12 (by kernel_rfl) (by kernel_rfl) (by kernel_rfl) ?hQ12 ?hy12 hHeld ?rest12
        case hi12 =>
          simp only [List.getElem?_toArray, List.getElem?_cons_succ, List.getElem?_cons_zero]
          rfl
        case hQ12 => exact fun _ _ _ h => h
        case hy12 =>
          refine Or.inl ⟨by rfl, ?_⟩
          intro w hSw
          go_simp
        try simp only [Act.put, List.setIfInBounds_toArray, List.set_cons_zero, List.set_cons_succ]
        refine wpAnyH_take (i := 13) (oi := ?oi13) (v := (.pointer (some ⟨b, 17, none⟩))) ?hi13 (by kernel_rfl) (by kernel_rfl) (by kernel_rfl) ?hQ13 ?hy13 hHeld ?rest13
        case hi13 =>
          simp only [List.getElem?_toArray, List.getElem?_cons_succ, List.getElem?_cons_zero]
          rfl
        case hQ13 => exact fun _ _ _ h => h
        case hy13 =>
          refine Or.inl ⟨by rfl, ?_⟩
          intro w hSw
          go_simp
        try simp only [Act.put, List.setIfInBounds_toArray, List.set_cons_zero, List.set_cons_succ]
        refine wpAnyH_take (i := 14) (oi := ?oi14) (v := (.int .i64 c.clients)) ?hi14 (by kernel_rfl) (by kernel_rfl) (by kernel_rfl) ?hQ14 ?hy14 hHeld ?rest14
        case hi14 =>
          simp only [List.getElem?_toArray, List.getElem?_cons_succ, List.getElem?_cons_zero]
          rfl
        case hQ14 => exact fun _ _ _ h => h
        case hy14 =>
          refine Or.inl ⟨by rfl, ?_⟩
          intro w hSw
          have hcc := hSw.out.cell 17 _ rfl
          go_simp
        try simp only [Act.put, List.setIfInBounds_toArray, List.set_cons_zero, List.set_cons_succ]
        refine wpAnyH_take (i := 15) (oi := ?oi15) (v := (.int .i64 (n * c.clients))) ?hi15 (by kernel_rfl) (by kernel_rfl) (by kernel_rfl) ?hQ15 ?hy15 hHeld ?rest15
        case hi15 =>
          simp only [List.getElem?_toArray, List.getElem?_cons_succ, List.getElem?_cons_zero]
          rfl
        case hQ15 => exact fun _ _ _ h => h
        case hy15 =>
          refine Or.inl ⟨by rfl, ?_⟩
          intro w hSw
          go_simp
        try simp only [Act.put, List.setIfInBounds_toArray, List.set_cons_zero, List.set_cons_succ]
        refine wpAnyH_ready (rs := [4]) (by kernel_rfl) (by simp) ?_
        refine AllReadyH.cons rfl (fun K hK => ?_) AllReadyH.nil
        go_simp
        refine (caps_any c (.slice A c.hosts.length cap) (.slice A2 c.routes.length cap2) _ (Lib.hid (HT.out.chg (Chg.refl [] _).drew))).mono ?_
        rintro e w3 ⟨rfl, H3⟩
        have HCD := Lib.hid (HC.out.drew.trans H3.out (by simp))
        have HBD := Lib.hid ((HB.out.chg (Chg.refl [] _).drew (by simp)).chg H3.out (by simp))
        rw [HKK.out]
        go_wp2_with fail
        refine hK.out _ _ HBD (fun hHeld => ?_)
        clear hK K
        try simp only [Act.put, List.setIfInBounds_toArray, List.set_cons_zero, List.set_cons_succ]
        refine wpAnyH_take (i := 5) (oi := ?oi5) (v := (.int .i64 (3 * K))) ?hi5 (by kernel_rfl) (by kernel_rfl) (by kernel_rfl) ?hQ5 ?hy5 hHeld ?rest5
        case hi5 =>
          simp only [List.getElem?_toArray, List.getElem?_cons_succ, List.getElem?_cons_zero]
          rfl
        case hQ5 => exact fun _ _ _ h => h
        case hy5 =>
          refine Or.inl ⟨by rfl, ?_⟩
          intro w hSw
          go_simp
        try simp only [Act.put, List.setIfInBounds_toArray, List.set_cons_zero, List.set_cons_succ]
        refine wpAnyH_take (i := 6) (oi := ?oi6) (v := (.int .i64 (4 * c.clients + 3 * K))) ?hi6 (by kernel_rfl) (by kernel_rfl) (by kernel_rfl) ?hQ6 ?hy6 hHeld ?rest6
        case hi6 =>
          simp only [List.getElem?_toArray, List.getElem?_cons_succ, List.getElem?_cons_zero]
          rfl
        case hQ6 => exact fun _ _ _ h => h
        case hy6 =>
          refine Or.inl ⟨by rfl, ?_⟩
          intro w hSw
          go_simp
        try simp only [Act.put, List.setIfInBounds_toArray, List.set_cons_zero, List.set_cons_succ]
        refine wpAnyH_take (i := 11) (oi := ?oi11) (v := (.int .i64 (4 * c.clients + 3 * K + 3 * (c.hosts.length : Int)))) ?hi11 (by kernel_rfl) (by kernel_rfl) (by kernel_rfl) ?hQ11 ?hy11 hHeld ?rest11
        case hi11 =>
          simp only [List.getElem?_toArray, List.getElem?_cons_succ, List.getElem?_cons_zero]
          rfl
        case hQ11 => exact fun _ _ _ h => h
        case hy11 =>
          refine Or.inl ⟨by rfl, ?_⟩
          intro w hSw
          go_simp
        try simp only [Act.put, List.setIfInBounds_toArray, List.set_cons_zero, List.set_cons_succ]
        refine wpAnyH_take (i := 16) (oi := ?oi16) (v := (.int .i64 (4 * c.clients + 3 * K + 3 * (c.hosts.length : Int) + n * c.clients))) ?hi16 (by kernel_rfl) (by kernel_rfl) (by kernel_rfl) ?hQ16 ?hy16 hHeld ?rest16
        case hi16 =>
          simp only [List.getElem?_toArray, List.getElem?_cons_succ, List.getElem?_cons_zero]
          rfl
        case hQ16 => exact fun _ _ _ h => h
        case hy16 =>
          refine Or.inl ⟨by rfl, ?_⟩
          intro w hSw
          go_simp
        try simp only [Act.put, List.setIfInBounds_toArray, List.set_cons_zero, List.set_cons_succ]
        refine wpAnyH_take (i := 17) (oi := ?oi17) (v := (.int .i64 (4 * c.clients + 3 * K + 3 * (c.hosts.length : Int) + n * c.clients))) ?hi17 (by kernel_rfl) (by kernel_rfl) (by kernel_rfl) ?hQ17 ?hy17 hHeld ?rest17
        case hi17 =>
          simp only [List.getElem?_toArray, List.getElem?_cons_succ, List.getElem?_cons_zero]
          rfl
        case hQ17 => exact fun _ _ _ h => h
        case hy17 =>
          refine Or.inl ⟨by rfl, ?_⟩
          intro w hSw
          go_simp
        try simp only [Act.put, List.setIfInBounds_toArray, List.set_cons_zero, List.set_cons_succ]
        refine wpAnyH_take (i := 18) (oi := ?oi18) (v := (.int .i64 0)) ?hi18 (by kernel_rfl) (by kernel_rfl) (by kernel_rfl) ?hQ18 ?hy18 hHeld ?rest18
        case hi18 =>
          simp only [List.getElem?_toArray, List.getElem?_cons_succ, List.getElem?_cons_zero]
          rfl
        case hQ18 => exact fun _ _ _ h => h
        case hy18 =>
          refine Or.inl ⟨by rfl, ?_⟩
          intro w hSw
          go_simp
        try simp only [Act.put, List.setIfInBounds_toArray, List.set_cons_zero, List.set_cons_succ]
        refine wpAnyH_done (by kernel_rfl) ?_ _
        go_wp2_with fail
        go_ret2
        refine ⟨?_, HCD.out⟩
        rw [HTN.out, HKK.out, HMM.out]
        rfl
end Go.Proofs.YtjndgkbikhndoaaGreatDoor

namespace Go.Proofs.YtjndgkbikhndoaaGreatDoor
open Go.RowKit Go.ChangeShapes Go.WideShapes
set_option linter.unusedVariables false

def moreH : List Ht → List Ht
  | [] => []
  | x :: r => ⟨x.name, x.cap + 1, x.pend⟩ :: r
def Cf.more (c : Cf) : Cf := { c with hosts := moreH c.hosts }
theorem moreH_len (l : List Ht) : (moreH l).length = l.length := by cases l <;> rfl
theorem moreH_names (l : List Ht) : (moreH l).map (fun h => h.name) = l.map (fun h => h.name) := by cases l <;> rfl
theorem more_sz {c : Cf} (h : CfSz c) : CfSz c.more := by
  refine ⟨fun x hx => ?_, h.rs, by show (moreH c.hosts).length ≤ _; rw [moreH_len]; exact h.hn, h.rn, h.path⟩
  have hm : x.name ∈ (moreH c.hosts).map (fun h => h.name) := List.mem_map_of_mem (f := fun h : Ht => h.name) hx
  rw [moreH_names] at hm
  obtain ⟨y, hy, e⟩ := List.mem_map.1 hm
  rw [← e]
  exact h.hs y hy
theorem more_right {c : Cf} {x : Ht} {r : List Ht} (h : rightB c = true) (hc : c.hosts = x :: r) (hx : x.cap ≠ 64) : rightB c.more = true := by
  have R := rgt_of h
  have hcap := R.caps x (by rw [hc]; simp)
  have ho := R.ho
  rw [hc, List.all_cons, Bool.and_eq_true] at ho
  refine yes_all ?_ ?_ R.r1 R.r2 ?_ ?_ ?_ R.pa R.nu
  · show 1 ≤ (moreH c.hosts).length
    rw [moreH_len]; exact R.h1
  · show (moreH c.hosts).length ≤ 16
    rw [moreH_len]; exact R.h2
  · show (moreH c.hosts).all htOK = true
    rw [hc]
    show (htOK ⟨x.name, x.cap + 1, x.pend⟩ && r.all htOK) = true
    rw [ho.2, Bool.and_true]
    have h1 := ho.1
    unfold htOK allR inR at h1 ⊢
    simp at h1 ⊢
    refine ⟨h1.1, ?_⟩
    omega
  · show ((moreH c.hosts).map (fun h => h.name)).Nodup
    rw [moreH_names]; exact R.nd
  · show c.routes.all (fun r => routeOK r ((moreH c.hosts).length : Nat)) = true
    rw [moreH_len]; exact R.ro
theorem more_caps {c : Cf} {x : Ht} {r : List Ht} (hc : c.hosts = x :: r) : capsN c.more = capsN c + 1 := by
  show ((moreH c.hosts).map (fun h => h.cap)).sum = (c.hosts.map (fun h => h.cap)).sum + 1
  rw [hc]
  simp [moreH]
  omega
theorem more_conns {c : Cf} {x : Ht} {r : List Ht} (hc : c.hosts = x :: r) : connsN c.more = connsN c + 1 := by
  have h1 := more_caps hc
  show c.clients + capsN c.more + ((moreH c.hosts).length : Nat) = c.clients + capsN c + (c.hosts.length : Nat) + 1
  rw [moreH_len]
  omega
theorem more_timers {c : Cf} {x : Ht} {r : List Ht} (hc : c.hosts = x :: r) : timersN c.more = timersN c + 3 := by
  have h1 := more_caps hc
  show 4 * c.clients + 3 * capsN c.more + 3 * ((moreH c.hosts).length : Nat) + mostN c * c.clients = 4 * c.clients + 3 * capsN c + 3 * (c.hosts.length : Nat) + mostN c * c.clients + 3
  rw [moreH_len]
  omega
theorem more_buf {c : Cf} {x : Ht} {r : List Ht} (h : rightB c = true) (hc : c.hosts = x :: r) : bufN c < bufN c.more := by
  have h1 := more_caps hc
  have R := (rgt_of h).nums
  show bufN c < c.clients * (2 * c.maxHead + c.maxBody + c.maxOut + 8192) + capsN c.more * (c.maxHead + c.maxBody + 8192)
  unfold bufN
  rw [h1, Int.add_mul]
  omega
/-- The bounds of a right configuration are small and, with a full first host, great enough. -/
theorem full_conns {c : Cf} {x : Ht} {r : List Ht} (h : rightB c = true) (hc : c.hosts = x :: r) (hx : x.cap = 64) : 64 < connsN c := by
  have R := rgt_of h
  have hn := R.nums
  have hk := capsK_bd c R.caps
  have h1 : (64 : Int) ≤ capsN c := by
    unfold capsN
    rw [hc, List.map_cons, List.sum_cons, hx]
    have : ∀ l : List Ht, (∀ y, y ∈ l → 1 ≤ y.cap) → 0 ≤ (l.map (fun h => h.cap)).sum := by
      intro l
      induction l with
      | nil => intro _; simp
      | cons y l ih =>
        intro hl
        have h1 := hl y (by simp)
        have h2 := ih (fun z hz => hl z (by simp [hz]))
        rw [List.map_cons, List.sum_cons]
        omega
    have := this r (fun y hy => (R.caps y (by rw [hc]; simp [hy])).1)
    omega
  unfold connsN
  omega
theorem rgt_pos {c : Cf} (h : Rgt c) : 1 < connsN c ∧ connsN c ≤ 1300 ∧ 0 < bufN c := by
  have hn := h.nums
  have hk := h.capsN
  have h1 := h.h1
  have h2 := h.h2
  have m1 : 0 ≤ c.clients * (2 * c.maxHead + c.maxBody + c.maxOut + 8192) := Int.mul_nonneg (by omega) (by omega)
  have m2 : 0 < capsN c * (c.maxHead + c.maxBody + 8192) := Int.mul_pos (by omega) (by omega)
  unfold connsN bufN
  omega
end Go.Proofs.YtjndgkbikhndoaaGreatDoor

namespace Go.Proofs.YtjndgkbikhndoaaGreatDoor
open Go.RowKit Go.ChangeShapes Go.WideShapes
set_option linter.unusedVariables false

theorem flat_inv {k : Nat} : ∀ (rows : List (List Value)), (∀ r, r ∈ rows → r.length = k) → ∀ (j : Nat) (u : Value), rows.flatten[j]? = some u → ∃ (i : Nat) (r : List Value) (t : Nat), rows[i]? = some r ∧ r[t]? = some u ∧ j = i * k + t
  | [], _, j, u, h => by simp at h
  | r :: rows, hk, j, u, h => by
    have hr := hk r (by simp)
    rw [List.flatten_cons, List.getElem?_append] at h
    split at h
    · exact ⟨0, r, j, rfl, h, by omega⟩
    · obtain ⟨i, r', t, h1, h2, h3⟩ := flat_inv rows (fun x hx => hk x (by simp [hx])) _ u h
      refine ⟨i + 1, r', t, h1, h2, ?_⟩
      rw [Nat.add_mul]
      omega
theorem flat_len {k : Nat} : ∀ (rows : List (List Value)), (∀ r, r ∈ rows → r.length = k) → rows.flatten.length = rows.length * k
  | [], _ => by simp
  | r :: rows, hk => by
    have hr := hk r (by simp)
    have := flat_len rows (fun x hx => hk x (by simp [hx]))
    rw [List.flatten_cons, List.length_append, this, hr, List.length_cons, Nat.add_mul]
    omega
theorem run_allT (T e k bytes : Nat) (zv : Value) (ty B : Nat) (w : World) (rows : List (List Value)) (bh oh cap : Nat) (hT : Tryz.prog.underlying T = some (.slice e))
    (hinfo : (Tryz.prog.info? e).map (fun i => (i.zero, i.size, i.bytes)) = some (some zv, k, bytes)) (hzk : zv.cells.size = k) (hk0 : 0 < k)
    (hx : ∀ (i : Nat) (r : List Value), rows[i]? = some r → ∀ (j : Nat) (x : Value), r[j]? = some x → w.cell? ⟨bh, oh + i * k + j, none⟩ = some x)
    (hk : ∀ r, r ∈ rows → r.length = k) (h1 : ∀ r, r ∈ rows → ∀ u, u ∈ r → u.oneCell' = true)
    (hl : rows.length ≤ 4000000) (hby : rows.length * bytes ≤ 140737488355328) (hB : B ≤ w.heap.size) :
    ∃ v' w', (Builtin.append_ #[T, T] ty #[.slice none 0 0, .slice (some ⟨bh, oh, none⟩) rows.length cap]).run Tryz.prog w = .ok v' w' ∧ OwnT B e k w' v' rows ∧ w.grownBy w' none := by
  obtain ⟨i0, hi, hz0, hz1, hz2⟩ := info_parts hinfo
  obtain ⟨v', w', q1, q2, q3, _⟩ := run_append_own (P := Tryz.prog) w B T ty e i0 _ k bytes hT hi hz0 hz1 hz2 hzk hk0 (.slice none 0 0) 0 [] (World.ownsRow_nil _ _ _ _) ⟨bh, oh, none⟩ rows.length cap rows.flatten (flat_len rows hk) (fun j u hj => by
    obtain ⟨i, r, t, a1, a2, a3⟩ := flat_inv rows hk j u hj
    rw [Addr.add_lit, a3, ← Nat.add_assoc]
    exact hx i r a1 t u a2) (fun u hu => by
    obtain ⟨r, hr, hu⟩ := List.mem_flatten.1 hu
    exact h1 r hr u hu) (by unfold maxLen; omega) (by rw [Nat.zero_add]; exact hby) hB
  refine ⟨v', w', q1, ?_, q3⟩
  unfold OwnT
  simpa using q2
end Go.Proofs.YtjndgkbikhndoaaGreatDoor

namespace Go.Proofs.YtjndgkbikhndoaaGreatDoor
open Go.RowKit Go.ChangeShapes Go.WideShapes
set_option linter.unusedVariables false

theorem OwnT.blk {B e k : Nat} {w : World} {v : Value} {rows : List (List Value)} (h : OwnT B e k w v rows) (h0 : 0 < rows.length) :
    ∃ g cap cur, v = .slice (some ⟨g, 0, none⟩) rows.length cap ∧ B ≤ g ∧ Blk w g cur e ∧ rows.length ≤ cap ∧ cur.take (rows.length * k) = rows.flatten := by
  rcases h.2 with ⟨rfl, h1⟩ | ⟨g, cap, cur, rfl, hb, hh, h1, h2, h3, h4⟩
  · omega
  · exact ⟨g, cap, cur.toList, rfl, hb, by unfold Blk; simpa using hh, h1, h4⟩
theorem Tbl.of_take {w : World} {g cap e k : Nat} {cur : List Value} {rows : List (List Value)} (hB : Blk w g cur e) (h : cur.take (rows.length * k) = rows.flatten) (hk : ∀ r, r ∈ rows → r.length = k) (hc : rows.length ≤ cap) : Tbl w (.slice (some ⟨g, 0, none⟩) rows.length cap) k rows := by
  refine ⟨_, cap, rfl, hc, fun h0 => ⟨g, 0, rfl, hB.lt, fun i r hr j x hj => ?_⟩⟩
  have hx := flat_get rows hk i r j x hr hj
  rw [← h, List.getElem?_take] at hx
  split at hx
  · rw [Nat.zero_add]
    exact hB.cell _ _ hx
  · cases hx
/-- One more at the first host, in the table. -/
theorem more_tbl {w : World} {g cap : Nat} {cur : List Value} {c : Cf} {x : Ht} {r : List Ht} (hB : Blk w g cur 45) (h : cur.take ((c.hosts.map htRow).length * 3) = (c.hosts.map htRow).flatten) (hx : c.hosts = x :: r) (hc : c.hosts.length ≤ cap) :
    Tbl (w.setCell ⟨g, 1, none⟩ (.int .i64 (x.cap + 1))) (.slice (some ⟨g, 0, none⟩) c.hosts.length cap) 3 (c.more.hosts.map htRow) := by
  have hl : (c.more.hosts.map htRow).length = c.hosts.length := by
    show ((moreH c.hosts).map htRow).length = _
    rw [List.length_map, moreH_len]
  have q := Tbl.of_take (k := 3) (cap := cap) (rows := c.more.hosts.map htRow) (hB.set 1 (.int .i64 (x.cap + 1))) (by
    rw [hl, List.take_set]
    rw [List.length_map] at h
    rw [h]
    show _ = ((moreH c.hosts).map htRow).flatten
    rw [hx]
    rfl) (by intro r hr; obtain ⟨y, -, rfl⟩ := List.mem_map.1 hr; rfl) (by rw [hl]; exact hc)
  rw [hl] at q
  exact q
theorem more_at {w w' : World} {c : Cf} {hv rv v3 : Value} {ps : List (Value × Value)} (h : CfAt w c hv rv ps) (hc : Chg [] w w') (h3 : Tbl w' v3 3 (c.more.hosts.map htRow)) : CfAt w' c.more v3 rv ps := ⟨h3, h.rs.chg hc⟩
theorem most_bd : ∀ (l : List Rt), (∀ x, x ∈ l → (0 ≤ x.retries ∧ x.retries ≤ 5) ∧ (0 ≤ x.hedges ∧ x.hedges ≤ 3)) → ∀ m : Int, 0 ≤ m → m ≤ 9 → 0 ≤ l.foldl (fun m r => max m (r.retries + r.hedges + 1)) m ∧ l.foldl (fun m r => max m (r.retries + r.hedges + 1)) m ≤ 9
  | [], _, m, h0, h1 => ⟨h0, h1⟩
  | x :: l, h, m, h0, h1 => by
    have hx := h x (by simp)
    exact most_bd l (fun y hy => h y (by simp [hy])) _ (by dsimp only; omega) (by dsimp only; omega)
theorem timers_bd {c : Cf} (h : Rgt c) : 0 < timersN c ∧ timersN c ≤ 10000 := by
  have hn := h.nums
  have hk := h.capsN
  have h1 := h.h1
  have h2 := h.h2
  have hm := most_bd c.routes h.tries 0 (by omega) (by omega)
  have hm2 := mul_bd (a := mostN c) (b := c.clients) (m := 9) (n := 256) hm.1 hm.2 (by omega) (by omega)
  unfold timersN
  omega
end Go.Proofs.YtjndgkbikhndoaaGreatDoor

namespace Go.Proofs.YtjndgkbikhndoaaGreatDoor
open Go.RowKit Go.ChangeShapes Go.WideShapes
set_option linter.unusedVariables false

def rtF (x : Rt × (Value × Value)) : List Value := rtRow x.1 x.2.1 x.2.2
theorem zip_rev {α β : Type} : ∀ (l : List α) (m : List β), l.length = m.length → (l.zip m).reverse = l.reverse.zip m.reverse
  | [], [], _ => rfl
  | [], _ :: _, h => by simp at h
  | _ :: _, [], h => by simp at h
  | a :: l, b :: m, h => by
    have hl : l.length = m.length := by simpa using h
    rw [List.zip_cons_cons, List.reverse_cons, zip_rev l m hl, List.reverse_cons, List.reverse_cons, List.zip_append (by simp [hl])]
    rfl
theorem turned_sz {c : Cf} (h : CfSz c) : CfSz c.turned :=
  ⟨fun x hx => h.hs x (List.mem_reverse.1 hx), fun x hx => h.rs x (List.mem_reverse.1 hx), by show c.hosts.reverse.length ≤ _; rw [List.length_reverse]; exact h.hn, by show c.routes.reverse.length ≤ _; rw [List.length_reverse]; exact h.rn, h.path⟩
theorem turned_at {w w' : World} {c : Cf} {hv rv v3 v5 : Value} {ps : List (Value × Value)} (h : CfAt w c hv rv ps) (hc : Chg [] w w') (h3 : Tbl w' v3 3 (c.hosts.reverse.map htRow)) (h5 : Tbl w' v5 21 ((c.routes.zip ps).reverse.map rtF)) : CfAt w' c.turned v3 v5 ps.reverse := by
  refine ⟨h3, ⟨by show ps.reverse.length = c.routes.reverse.length; rw [List.length_reverse, List.length_reverse, h.rs.len], ?_, ?_⟩⟩
  · rw [zip_rev _ _ h.rs.len.symm] at h5
    exact h5
  · intro i r p hr hp
    have hr : c.routes.reverse[i]? = some r := hr
    have hi := (List.getElem?_eq_some_iff.1 hr).1
    rw [List.length_reverse] at hi
    rw [List.getElem?_reverse hi] at hr
    rw [List.getElem?_reverse (by rw [h.rs.len]; exact hi), h.rs.len] at hp
    exact (h.rs.each _ r p hr hp).chg hc
theorem cf_load {w : World} {b : Nat} {c : Cf} {hv rv : Value} (h : Blk w b (cfRow c hv rv) 36) : (loadVar 36 ⟨b, 0, none⟩).run Tryz.prog w = .ok (.agg (cfRow c hv rv).toArray) w :=
  load_row 36 _ (cfRow c hv rv) Tryz.underlying36 rfl (by kernel_rfl) (fun j x hj => by rw [Nat.zero_add]; exact h.cell j x hj)
/-- A store elsewhere leaves a table. -/
theorem tbl_set {w : World} {A : Option Addr} {n cap k : Nat} {rows : List (List Value)} {p : Addr} {u : Value} (h : Tbl w (.slice A n cap) k rows) (hp : ∀ a, A = some a → a.block ≠ p.block) : Tbl (w.setCell p u) (.slice A n cap) k rows := by
  obtain ⟨A', cap', e, hc, hx⟩ := h
  injection e with e1 e2 e3
  subst e1
  refine ⟨A, cap', by rw [e2, e3], hc, fun h0 => ?_⟩
  obtain ⟨b, off, e, hb, hx⟩ := hx h0
  refine ⟨b, off, e, by simpa [World.setCell] using hb, fun i r hr j x hj => ?_⟩
  have hch : Chg [p.block] w (w.setCell p u) := (Chg.refl [p.block] w).setCell (by intro _; simp) u
  exact hch.cell (hx i r hr j x hj) (by simpa using hp _ e)
theorem tbl_set2 {w : World} {A : Option Addr} {n cap k b i j : Nat} {rows : List (List Value)} {u v : Value} (h : Tbl w (.slice A n cap) k rows) (hp : ∀ a, A = some a → a.block ≠ b) : Tbl ((w.setCell ⟨b, i, none⟩ u).setCell ⟨b, j, none⟩ v) (.slice A n cap) k rows := tbl_set (tbl_set h hp) hp
set_option maxHeartbeats 16000000 in
set_option maxRecDepth 100000 in
theorem turned_any (c : Cf) (hv rv : Value) (ps : List (Value × Value)) (w : World) (hE : Hid (Env w)) (hC : Hid (CfAt w c hv rv ps)) (hS : Hid (CfSz c)) :
    Calls Tryz.prog 5 #[.agg (cfRow c hv rv).toArray] w fun e w' => e = .returned (.bool true) ∧ Hid (Chg [] w w') := by
  have hl1 : (c.hosts.map htRow).length = c.hosts.length := List.length_map _
  obtain ⟨A, cap, rfl⟩ := hC.out.hs.form
  rw [hl1] at hC ⊢
  have hl2 : ((c.routes.zip ps).map (fun x => rtRow x.1 x.2.1 x.2.2)).length = c.routes.length := by
    have := hC.out.rs.len
    rw [List.length_map, List.length_zip]
    omega
  obtain ⟨A2, cap2, rfl⟩ := hC.out.rs.tb.form
  rw [hl2] at hC ⊢
  have HL1 := Lib.hid hl1
  have HL2 := Lib.hid hl2
  have hcap := hC.out.hs.cap
  have hcap2 := hC.out.rs.tb.cap
  clear hl1 hl2
  have HB0 := Lib.hid (Blk.new w (cfRow c (.slice A c.hosts.length cap) (.slice A2 c.routes.length cap2)) 36)
  have HC0 := Lib.hid ((Chg.refl [] w).alloc (.cells (cfRow c (.slice A c.hosts.length cap) (.slice A2 c.routes.length cap2)).toArray 36))
  have hhn := hS.out.hn
  have hrn := hS.out.rn
  obtain ⟨z, hz⟩ : ∃ z, rightB c = z := ⟨_, rfl⟩
  have HZ := Lib.hid hz
  clear hz
  change Calls Tryz.prog 5 #[.agg #[.slice A c.hosts.length cap, .slice A2 c.routes.length cap2, .int .i64 c.every, .int .i64 c.timeout, .int .i64 c.up, .int .i64 c.down, .string c.path, .int .i64 c.fails, .int .i64 c.base, .int .i64 c.longest, .int .i64 c.share, .int .i64 c.maxHead, .int .i64 c.maxBody, .int .i64 c.maxOut, .int .i64 c.headTime, .int .i64 c.idle, .int .i64 c.life, .int .i64 c.clients]] w _
  go_enter Tryz.func5, Tryz.ntmps5
  go_upto_region 2 with fail
  change Hid (Blk (w.alloc (.cells #[.slice A c.hosts.length cap, .slice A2 c.routes.length cap2, .int .i64 c.every, .int .i64 c.timeout, .int .i64 c.up, .int .i64 c.down, .string c.path, .int .i64 c.fails, .int .i64 c.base, .int .i64 c.longest, .int .i64 c.share, .int .i64 c.maxHead, .int .i64 c.maxBody, .int .i64 c.maxOut, .int .i64 c.headTime, .int .i64 c.idle, .int .i64 c.life, .int .i64 c.clients] 36)) _ _ _) at HB0
  change Hid (Chg [] w (w.alloc (.cells #[.slice A c.hosts.length cap, .slice A2 c.routes.length cap2, .int .i64 c.every, .int .i64 c.timeout, .int .i64 c.up, .int .i64 c.down, .string c.path, .int .i64 c.fails, .int .i64 c.base, .int .i64 c.longest, .int .i64 c.share, .int .i64 c.maxHead, .int .i64 c.maxBody, .int .i64 c.maxOut, .int .i64 c.headTime, .int .i64 c.idle, .int .i64 c.life, .int .i64 c.clients] 36))) at HC0
  generalize w.alloc (.cells #[.slice A c.hosts.length cap, .slice A2 c.routes.length cap2, .int .i64 c.every, .int .i64 c.timeout, .int .i64 c.up, .int .i64 c.down, .string c.path, .int .i64 c.fails, .int .i64 c.base, .int .i64 c.longest, .int .i64 c.share, .int .i64 c.maxHead, .int .i64 c.maxBody, .int .i64 c.maxOut, .int .i64 c.headTime, .int .i64 c.idle, .int .i64 c.life, .int .i64 c.clients] 36) = W1 at HB0 HC0 ⊢
  obtain ⟨b, hb0⟩ : ∃ b, w.heap.size = b := ⟨_, rfl⟩
  rw [hb0] at HB0 ⊢
  have HBW := Lib.hid (show w.heap.size ≤ b from by omega)
  clear hb0
  have HBl := Lib.hid HB0.out.lt
  have c0 := HB0.out.cell 0 _ rfl
  go_wp2_with fail
  clear c0
  go_loopw [3, 15] (fun v i wr => ∃ k : Nat, i = .int .i64 k ∧ k ≤ c.hosts.length ∧ Hid (OwnT W1.heap.size 45 3 wr v ((c.hosts.reverse.take k).map htRow)) ∧ Hid (Chg [] W1 wr)) (fun _ i _ => c.hosts.length - (intOf i).toNat)
  case atStart => exact ⟨0, rfl, by omega, Lib.hid (OwnT.nil _ _ _ _), Chg.refl _ _⟩
  case round =>
    obtain ⟨k, rfl, hk, HO, HCk⟩ := hrel
    by_cases hlt : k < c.hosts.length
    · obtain ⟨bh, oh, rfl, hbs, hx⟩ := hC.out.hs.at3 (by rw [HL1.out]; omega)
      obtain ⟨j, hj⟩ : ∃ j, c.hosts.length - 1 - k = j := ⟨_, rfl⟩
      have hji : (c.hosts.length : Int) - 1 - (k : Int) = (j : Int) := by omega
      have hjl : j < c.hosts.length := by omega
      obtain ⟨x, hxk⟩ : ∃ x, c.hosts[j]? = some x := ⟨_, List.getElem?_eq_getElem hjl⟩
      obtain ⟨q0, q1, q2⟩ := hx j _ _ _ (by rw [List.getElem?_map, hxk]; rfl)
      have HCa := Lib.hid (HC0.out.trans HCk.out (by simp))
      have q0 := HCa.out.cell q0 (by simp)
      have q1 := HCa.out.cell q1 (by simp)
      have q2 := HCa.out.cell q2 (by simp)
      have c0 := (HB0.out.chg HCk.out (by simp)).cell 0 _ rfl
      have HTK := Lib.hid (show (c.hosts.reverse.take (k + 1)).map htRow = (c.hosts.reverse.take k).map htRow ++ [htRow x] from by rw [take_rev_succ (by rw [hj]; exact hxk) hlt, List.map_append]; rfl)
      have htl : ((c.hosts.reverse.take k).map htRow).length ≤ 1048576 := by rw [List.length_map, List.length_take, List.length_reverse]; omega
      clear hx hxk hj
      obtain ⟨name, cp, pd⟩ := x
      dsimp only at q0 q1 q2
      generalize htk : (c.hosts.reverse.take k).map htRow = tk at *
      clear htk
      obtain ⟨Av, cv, rfl⟩ := HO.out.form
      obtain ⟨v5, w5, hr, ho, hg⟩ := run_pushT 33 45 3 32 _ 33 W1.heap.size (wr.alloc (.cells #[.string name, .int .i64 cp, .int .i64 pd] 45)) (.slice Av tk.length cv) tk [.string name, .int .i64 cp, .int .i64 pd] wr.heap.size Tryz.underlying33 info45 rfl (by decide) (HO.out.chg ((Chg.refl [] wr).alloc _)) (Blk.new _ _ _) rfl (by simp [Value.oneCell']) (by omega) (by omega) (by have := HCk.out.size; simp; omega)
      have HO5 := Lib.hid ho
      have HC5 := Lib.hid (Chg.grownOwn (HCk.out.alloc (.cells #[.string name, .int .i64 cp, .int .i64 pd] 45)) (HO.out.chg ((Chg.refl [] wr).alloc (.cells #[.string name, .int .i64 cp, .int .i64 pd] 45))) (Nat.le_refl _) hg)
      clear ho hg
      go_wp2_with (at_builtin; refine wpList_appT rfl 33 _ _ rfl _ _ rfl rfl v5 w5 hr ?_)
      go_roundw
      case rel => exact ⟨k + 1, by go_num, by omega, by rw [HTK.out]; exact HO5, HC5⟩
      case measure => simp [intOf]; omega
    · have hke : k = c.hosts.length := by omega
      subst hke
      rw [← List.length_reverse, List.take_length] at HO
      have HB := Lib.hid (HB0.out.chg HCk.out (by simp))
      have HC := Lib.hid (HC0.out.trans HCk.out (by simp))
      obtain ⟨A3, cap3, rfl⟩ := HO.out.form
      have HBN3 := Lib.hid (show ∀ a, A3 = some a → a.block ≠ b from fun a ha => by
        have h1 := HO.out.own_lt a.block (by rw [ha]; rfl)
        have h2 := HBl.out
        omega)
      generalize hln3 : (c.hosts.reverse.map htRow).length = ln3 at HO ⊢
      have HOh := HO
      clear hln3 HO HCk HB0 HC0 hk hlt
      have HBM := Lib.hid HB.out.lt
      generalize wr = Wm at *
      have c1 := HB.out.cell 1 _ rfl
      go_wp2_with fail
      clear c1
      go_loopw [5, 35] (fun v i wx => ∃ k : Nat, i = .int .i64 k ∧ k ≤ c.routes.length ∧ Hid (OwnT Wm.heap.size 42 21 wx v (((c.routes.zip ps).reverse.take k).map rtF)) ∧ Hid (Chg [] Wm wx)) (fun _ i _ => c.routes.length - (intOf i).toNat)
      case atStart => exact ⟨0, rfl, by omega, Lib.hid (OwnT.nil _ _ _ _), Chg.refl _ _⟩
      case round =>
        obtain ⟨k, rfl, hk, HO, HCk⟩ := hrel
        have hzl : (c.routes.zip ps).length = c.routes.length := by have := hC.out.rs.len; rw [List.length_zip]; omega
        have HZL := Lib.hid hzl
        clear hzl
        by_cases hlt : k < c.routes.length
        · obtain ⟨j, hj⟩ : ∃ j, c.routes.length - 1 - k = j := ⟨_, rfl⟩
          have hji : (c.routes.length : Int) - 1 - (k : Int) = (j : Int) := by omega
          have hjl : j < c.routes.length := by omega
          obtain ⟨r, hr⟩ : ∃ r, c.routes[j]? = some r := ⟨_, List.getElem?_eq_getElem hjl⟩
          obtain ⟨p, hp⟩ : ∃ p, ps[j]? = some p := ⟨_, List.getElem?_eq_getElem (by rw [hC.out.rs.len]; exact hjl)⟩
          have hzp : (c.routes.zip ps)[j]? = some (r, p) := (List.getElem?_zip_eq_some (z := (r, p))).2 ⟨hr, hp⟩
          have hrow : ((c.routes.zip ps).map (fun x => rtRow x.1 x.2.1 x.2.2))[j]? = some (rtRow r p.1 p.2) := by
            rw [List.getElem?_map, hzp]
            rfl
          have HTK := Lib.hid (show ((c.routes.zip ps).reverse.take (k + 1)).map rtF = ((c.routes.zip ps).reverse.take k).map rtF ++ [rtRow r p.1 p.2] from by rw [take_rev_succ (by rw [HZL.out, hj]; exact hzp) (by rw [HZL.out]; exact hlt), List.map_append]; rfl)
          have HRA := Lib.hid (hC.out.rs.each j r p hr hp)
          obtain ⟨p1, p2⟩ := p
          dsimp only at HRA hrow HTK
          obtain ⟨Am, cm, rfl⟩ := HRA.out.ms.form
          obtain ⟨Ah, ch, rfl⟩ := HRA.out.hs.form
          generalize hlm : (strRows r.m.methods).length = lm at *
          generalize hlh : (intRows r.hosts).length = lh at *
          clear hlm hlh
          obtain ⟨A4, cap4, e4, -, h4⟩ := hC.out.rs.tb
          injection e4 with e41 e42 e43
          subst e41
          obtain ⟨br, or, rfl, hbr, hx⟩ := h4 (by rw [HL2.out]; omega)
          have HCr := Lib.hid (HC.out.trans HCk.out (by simp))
          have HBr := Lib.hid (HB.out.chg HCk.out (by simp))
          have HLD : Hid ((loadVar 42 ⟨br, or + j * 21, none⟩).run Tryz.prog wr = .ok (.agg #[.string r.m.host, .string r.m.pre, .slice Am lm cm, .string r.m.header, .string r.m.value, .slice Ah lh ch, .int .i64 r.rate, .int .i64 r.per, .int .i64 r.burst, .int .i64 r.opn, .int .i64 r.fails, .int .i64 r.cool, .int .i64 r.probes, .int .i64 r.percent, .int .i64 r.min, .int .i64 r.window, .int .i64 r.retries, .int .i64 r.hedges, .int .i64 r.hedgeAfter, .int .i64 r.perTry, .int .i64 r.total]) wr) := Lib.hid (load_row 42 _ (rtRow r (.slice Am lm cm) (.slice Ah lh ch)) Tryz.underlying42 rfl (by kernel_rfl) (fun i x hj => HCr.out.cell (hx j _ hrow i x hj) (by simp)))
          have c1 := HBr.out.cell 1 _ rfl
          have htl : (((c.routes.zip ps).reverse.take k).map rtF).length ≤ 1048576 := by rw [List.length_map, List.length_take, List.length_reverse]; omega
          clear hx hrow hr hp hzp h4 e42 e43 hbr hj HRA
          generalize htk : ((c.routes.zip ps).reverse.take k).map rtF = tk at *
          clear htk
          obtain ⟨Av, cv, rfl⟩ := HO.out.form
          obtain ⟨v5, w5, hr, ho, hg⟩ := run_pushT 34 42 21 232 _ 34 Wm.heap.size (wr.alloc (.cells #[.string r.m.host, .string r.m.pre, .slice Am lm cm, .string r.m.header, .string r.m.value, .slice Ah lh ch, .int .i64 r.rate, .int .i64 r.per, .int .i64 r.burst, .int .i64 r.opn, .int .i64 r.fails, .int .i64 r.cool, .int .i64 r.probes, .int .i64 r.percent, .int .i64 r.min, .int .i64 r.window, .int .i64 r.retries, .int .i64 r.hedges, .int .i64 r.hedgeAfter, .int .i64 r.perTry, .int .i64 r.total] 42)) (.slice Av tk.length cv) tk (rtRow r (.slice Am lm cm) (.slice Ah lh ch)) wr.heap.size Tryz.underlying34 info42 rfl (by decide) (HO.out.chg ((Chg.refl [] wr).alloc _)) (Blk.new _ _ _) rfl (by simp [Value.oneCell', rtRow]) (by omega) (by omega) (by have := HCk.out.size; simp; omega)
          have HO5 := Lib.hid ho
          have HC5 := Lib.hid (Chg.grownOwn (HCk.out.alloc (.cells #[.string r.m.host, .string r.m.pre, .slice Am lm cm, .string r.m.header, .string r.m.value, .slice Ah lh ch, .int .i64 r.rate, .int .i64 r.per, .int .i64 r.burst, .int .i64 r.opn, .int .i64 r.fails, .int .i64 r.cool, .int .i64 r.probes, .int .i64 r.percent, .int .i64 r.min, .int .i64 r.window, .int .i64 r.retries, .int .i64 r.hedges, .int .i64 r.hedgeAfter, .int .i64 r.perTry, .int .i64 r.total] 42)) (HO.out.chg ((Chg.refl [] wr).alloc (.cells #[.string r.m.host, .string r.m.pre, .slice Am lm cm, .string r.m.header, .string r.m.value, .slice Ah lh ch, .int .i64 r.rate, .int .i64 r.per, .int .i64 r.burst, .int .i64 r.opn, .int .i64 r.fails, .int .i64 r.cool, .int .i64 r.probes, .int .i64 r.percent, .int .i64 r.min, .int .i64 r.window, .int .i64 r.retries, .int .i64 r.hedges, .int .i64 r.hedgeAfter, .int .i64 r.perTry, .int .i64 r.total] 42))) (Nat.le_refl _) hg)
          clear ho hg
          go_wp2_with (first | refine wpList_load_row rfl 42 _ rfl ⟨br, or + j * 21, none⟩ _ rfl HLD.out ?_ | (at_builtin; refine wpList_appT rfl 34 _ _ rfl _ _ rfl rfl v5 w5 hr ?_))
          go_roundw
          case rel => exact ⟨k + 1, by go_num, by omega, by rw [HTK.out]; exact HO5, HC5⟩
          case measure => simp [intOf]; omega
        · have hke : k = c.routes.length := by omega
          subst hke
          rw [← HZL.out, ← List.length_reverse, List.take_length] at HO
          have HB2 := Lib.hid (HB.out.chg HCk.out (by simp))
          have HC2 := Lib.hid (HC.out.trans HCk.out (by simp))
          have HT3 := Lib.hid ((HOh.out.chg HCk.out).tbl (by intro r hr; obtain ⟨x, -, rfl⟩ := List.mem_map.1 hr; rfl))
          have HT5 := Lib.hid (HO.out.tbl (by intro r hr; obtain ⟨x, -, rfl⟩ := List.mem_map.1 hr; rfl))
          obtain ⟨A5, cap5, rfl⟩ := HO.out.form
          have HBN5 := Lib.hid (show ∀ a, A5 = some a → a.block ≠ b from fun a ha => by
            have h1 := HO.out.own_lt a.block (by rw [ha]; rfl)
            have h2 := HBM.out
            omega)
          generalize hln5 : ((c.routes.zip ps).reverse.map rtF).length = ln5 at HT5 ⊢
          clear hln5 HO HOh HB HC HCk hk hlt
          generalize wr = Wx at *
          have HZT := Lib.hid (show rightB c.turned = z from by rw [right_turned, HZ.out])
          have HBT := Lib.hid (buf_turned c)
          obtain ⟨E, hEz⟩ : ∃ E, ok3 z = E := ⟨_, rfl⟩
          obtain ⟨NN, hNN⟩ : ∃ NN, okN z (bufN c) = NN := ⟨_, rfl⟩
          have HEZ := Lib.hid hEz
          have HNN := Lib.hid hNN
          clear hEz hNN
          have HL0 := Lib.hid (cf_load HB2.out)
          go_wp2_with (first | refine wpList_load_row rfl 36 _ rfl ⟨b, 0, none⟩ _ rfl HL0.out ?_ | refine wpList_load_want (by rfl) 36 _ rfl ⟨b, 0, none⟩ _ rfl HL0.out ?_)
          refine (check_any c _ _ ps _ (Lib.hid (hE.out.chg HC2.out)) (Lib.hid (hC.out.chg HC2.out)) hS z HZ.out).mono ?_
          rintro e W3 ⟨rfl, H3⟩
          rw [HEZ.out]
          have HB3 := Lib.hid (HB2.out.chg H3.out (by simp))
          have HC3 := Lib.hid (HC2.out.trans H3.out (by simp))
          have HT33 := Lib.hid (HT3.out.chg H3.out)
          have HT35 := Lib.hid (HT5.out.chg H3.out)
          clear HL0 HB2 HT3 HT5
          have HL0 := Lib.hid (cf_load HB3.out)
          go_wp2_with (first | refine wpList_load_row rfl 36 _ rfl ⟨b, 0, none⟩ _ rfl HL0.out ?_ | refine wpList_load_want (by rfl) 36 _ rfl ⟨b, 0, none⟩ _ rfl HL0.out ?_)
          refine (buf_any c _ _ ps _ (Lib.hid (hE.out.chg HC3.out)) (Lib.hid (hC.out.chg HC3.out)) hS z HZ.out).mono ?_
          rintro e W4 ⟨rfl, H4⟩
          rw [HEZ.out, HNN.out]
          have HB4 := Lib.hid (HB3.out.chg H4.out (by simp))
          have HC4 := Lib.hid (HC3.out.trans H4.out (by simp))
          have HT43 := Lib.hid (HT33.out.chg H4.out)
          have HT45 := Lib.hid (HT35.out.chg H4.out)
          clear HL0 HB3 HT33 HT35
          have c0 := HB4.out.cell 0 _ rfl
          have c1 := HB4.out.cell 1 _ rfl
          have f0 := HB4.out.free 0
          have f1 := HB4.out.free 1
          go_upto_region 17 with fail
          have HB5 : Hid (Blk ((W4.setCell ⟨b, 0, none⟩ (.slice A3 ln3 cap3)).setCell ⟨b, 1, none⟩ (.slice A5 ln5 cap5)) b (cfRow c.turned (.slice A3 ln3 cap3) (.slice A5 ln5 cap5)) 36) := Lib.hid ((HB4.out.set 0 (.slice A3 ln3 cap3)).set 1 (.slice A5 ln5 cap5))
          have HC5 := Lib.hid ((HC4.out.setCell (p := ⟨b, 0, none⟩) (by intro q; have := HBW.out; have : b < w.heap.size := q; omega) (.slice A3 ln3 cap3)).setCell (p := ⟨b, 1, none⟩) (by intro q; have := HBW.out; have : b < w.heap.size := q; omega) (.slice A5 ln5 cap5))
          have HX : Hid (CfAt ((W4.setCell ⟨b, 0, none⟩ (.slice A3 ln3 cap3)).setCell ⟨b, 1, none⟩ (.slice A5 ln5 cap5)) c.turned (.slice A3 ln3 cap3) (.slice A5 ln5 cap5) ps.reverse) := Lib.hid (turned_at hC.out HC5.out (tbl_set2 HT43.out HBN3.out) (tbl_set2 HT45.out HBN5.out))
          clear c0 c1 f0 f1
          generalize (W4.setCell ⟨b, 0, none⟩ (.slice A3 ln3 cap3)).setCell ⟨b, 1, none⟩ (.slice A5 ln5 cap5) = W5 at *
          have HL0 := Lib.hid (cf_load HB5.out)
          go_wp2_with (first | refine wpList_load_row rfl 36 _ rfl ⟨b, 0, none⟩ _ rfl HL0.out ?_ | refine wpList_load_want (by rfl) 36 _ rfl ⟨b, 0, none⟩ _ rfl HL0.out ?_)
          refine (buf_any c.turned _ _ ps.reverse _ (Lib.hid (hE.out.chg HC5.out)) HX (Lib.hid (turned_sz hS.out)) z HZT.out).mono ?_
          rintro e W6 ⟨rfl, H6⟩
          rw [HEZ.out, HBT.out, HNN.out]
          have HB6 := Lib.hid (HB5.out.chg H6.out (by simp))
          have HC6 := Lib.hid (HC5.out.trans H6.out (by simp))
          have HX6 := Lib.hid (HX.out.chg H6.out)
          clear HL0 HB5 HX
          have HL0 := Lib.hid (cf_load HB6.out)
          go_wp2_with (first | refine wpList_load_row rfl 36 _ rfl ⟨b, 0, none⟩ _ rfl HL0.out ?_ | refine wpList_load_want (by rfl) 36 _ rfl ⟨b, 0, none⟩ _ rfl HL0.out ?_)
          refine (check_any c.turned _ _ ps.reverse _ (Lib.hid (hE.out.chg HC6.out)) HX6 (Lib.hid (turned_sz hS.out)) z HZT.out).mono ?_
          rintro e W7 ⟨rfl, H7⟩
          rw [HEZ.out]
          have HC7 := Lib.hid (HC6.out.trans H7.out (by simp))
          go_wp2_with fail
          refine (cspeaks_any _ (Lib.hid (hE.out.chg HC7.out))).mono ?_
          rintro e W8 ⟨rfl, H8⟩
          go_wp2_with fail
          go_ret
          exact ⟨rfl, HC7.out.trans H8.out (by simp)⟩
end Go.Proofs.YtjndgkbikhndoaaGreatDoor
