/- Layer 13 (config): the walk of ConfigChecks. -/
import Derived.Test.YtjndgkbikhndoaaGreatDoorX5
namespace Go.Proofs.YtjndgkbikhndoaaGreatDoor
open Go.RowKit Go.ChangeShapes Go.WideShapes
set_option linter.unusedVariables false

set_option maxHeartbeats 16000000 in
set_option maxRecDepth 100000 in
theorem checks_any (c : Cf) (hv rv : Value) (ps : List (Value × Value)) (w : World) (hE : Hid (Env w)) (hC : Hid (CfAt w c hv rv ps)) (hS : Hid (CfSz c)) :
    Calls Tryz.prog 6 #[.agg (cfRow c hv rv).toArray] w fun e w' => e = .returned (.bool true) ∧ Hid (Chg [] w w') := by
  have hl1 : (c.hosts.map htRow).length = c.hosts.length := List.length_map _
  obtain ⟨A, cap, rfl⟩ := hC.out.hs.form
  rw [hl1] at hC ⊢
  have hl2 : ((c.routes.zip ps).map (fun x => rtRow x.1 x.2.1 x.2.2)).length = c.routes.length := by
    have := hC.out.rs.len
    rw [List.length_map, List.length_zip]
    omega
  obtain ⟨A2, cap2, rfl⟩ := hC.out.rs.tb.form
  rw [hl2] at hC ⊢
  clear hl1 hl2
  have HB0 := Lib.hid (Blk.new w (cfRow c (.slice A c.hosts.length cap) (.slice A2 c.routes.length cap2)) 36)
  have HC0 := Lib.hid ((Chg.refl [] w).alloc (.cells (cfRow c (.slice A c.hosts.length cap) (.slice A2 c.routes.length cap2)).toArray 36))
  obtain ⟨z, hz⟩ : ∃ z, rightB c = z := ⟨_, rfl⟩
  have HZ := Lib.hid hz
  clear hz
  obtain ⟨E, hEz⟩ : ∃ E, ok3 z = E := ⟨_, rfl⟩
  obtain ⟨NA, hNA⟩ : ∃ NN, okN z (connsN c) = NN := ⟨_, rfl⟩
  obtain ⟨NT, hNT⟩ : ∃ NN, okN z (timersN c) = NN := ⟨_, rfl⟩
  obtain ⟨NB, hNB⟩ : ∃ NN, okN z (bufN c) = NN := ⟨_, rfl⟩
  have HEZ := Lib.hid hEz
  have HNA := Lib.hid hNA
  have HNT := Lib.hid hNT
  have HNB := Lib.hid hNB
  clear hEz hNA hNT hNB
  change Calls Tryz.prog 6 #[.agg #[.slice A c.hosts.length cap, .slice A2 c.routes.length cap2, .int .i64 c.every, .int .i64 c.timeout, .int .i64 c.up, .int .i64 c.down, .string c.path, .int .i64 c.fails, .int .i64 c.base, .int .i64 c.longest, .int .i64 c.share, .int .i64 c.maxHead, .int .i64 c.maxBody, .int .i64 c.maxOut, .int .i64 c.headTime, .int .i64 c.idle, .int .i64 c.life, .int .i64 c.clients]] w _
  go_enter Tryz.func6, Tryz.ntmps6
  go_upto_region 1 with fail
  change Hid (Blk (w.alloc (.cells #[.slice A c.hosts.length cap, .slice A2 c.routes.length cap2, .int .i64 c.every, .int .i64 c.timeout, .int .i64 c.up, .int .i64 c.down, .string c.path, .int .i64 c.fails, .int .i64 c.base, .int .i64 c.longest, .int .i64 c.share, .int .i64 c.maxHead, .int .i64 c.maxBody, .int .i64 c.maxOut, .int .i64 c.headTime, .int .i64 c.idle, .int .i64 c.life, .int .i64 c.clients] 36)) _ _ _) at HB0
  change Hid (Chg [] w (w.alloc (.cells #[.slice A c.hosts.length cap, .slice A2 c.routes.length cap2, .int .i64 c.every, .int .i64 c.timeout, .int .i64 c.up, .int .i64 c.down, .string c.path, .int .i64 c.fails, .int .i64 c.base, .int .i64 c.longest, .int .i64 c.share, .int .i64 c.maxHead, .int .i64 c.maxBody, .int .i64 c.maxOut, .int .i64 c.headTime, .int .i64 c.idle, .int .i64 c.life, .int .i64 c.clients] 36))) at HC0
  generalize w.alloc (.cells #[.slice A c.hosts.length cap, .slice A2 c.routes.length cap2, .int .i64 c.every, .int .i64 c.timeout, .int .i64 c.up, .int .i64 c.down, .string c.path, .int .i64 c.fails, .int .i64 c.base, .int .i64 c.longest, .int .i64 c.share, .int .i64 c.maxHead, .int .i64 c.maxBody, .int .i64 c.maxOut, .int .i64 c.headTime, .int .i64 c.idle, .int .i64 c.life, .int .i64 c.clients] 36) = W1 at HB0 HC0 ⊢
  generalize w.heap.size = b at HB0 ⊢
  have HB := HB0
  have HC := HC0
  clear HB0 HC0
  have HL0 := Lib.hid (cf_load HB.out)
  go_wp2_with (first | refine wpList_load_row rfl 36 _ rfl ⟨b, 0, none⟩ _ rfl HL0.out ?_ | refine wpList_load_want (by rfl) 36 _ rfl ⟨b, 0, none⟩ _ rfl HL0.out ?_)
  refine (conns_any c _ _ ps _ (Lib.hid (hE.out.chg HC.out)) (Lib.hid (hC.out.chg HC.out)) hS z HZ.out).mono ?_
  rintro e W3 ⟨rfl, H3⟩
  have HB3 := Lib.hid (HB.out.chg H3.out (by simp))
  have HC3 := Lib.hid (HC.out.trans H3.out (by simp))
  clear HL0 HB HC
  have HB := HB3
  have HC := HC3
  clear HB3 HC3
  rw [HEZ.out, HNA.out]
  have HL0 := Lib.hid (cf_load HB.out)
  go_wp2_with (first | refine wpList_load_row rfl 36 _ rfl ⟨b, 0, none⟩ _ rfl HL0.out ?_ | refine wpList_load_want (by rfl) 36 _ rfl ⟨b, 0, none⟩ _ rfl HL0.out ?_)
  refine (timers_any c _ _ ps _ (Lib.hid (hE.out.chg HC.out)) (Lib.hid (hC.out.chg HC.out)) hS z HZ.out).mono ?_
  rintro e W3 ⟨rfl, H3⟩
  have HB3 := Lib.hid (HB.out.chg H3.out (by simp))
  have HC3 := Lib.hid (HC.out.trans H3.out (by simp))
  clear HL0 HB HC
  have HB := HB3
  have HC := HC3
  clear HB3 HC3
  rw [HEZ.out, HNT.out]
  have HL0 := Lib.hid (cf_load HB.out)
  go_wp2_with (first | refine wpList_load_row rfl 36 _ rfl ⟨b, 0, none⟩ _ rfl HL0.out ?_ | refine wpList_load_want (by rfl) 36 _ rfl ⟨b, 0, none⟩ _ rfl HL0.out ?_)
  refine (buf_any c _ _ ps _ (Lib.hid (hE.out.chg HC.out)) (Lib.hid (hC.out.chg HC.out)) hS z HZ.out).mono ?_
  rintro e W3 ⟨rfl, H3⟩
  have HB3 := Lib.hid (HB.out.chg H3.out (by simp))
  have HC3 := Lib.hid (HC.out.trans H3.out (by simp))
  clear HL0 HB HC
  have HB := HB3
  have HC := HC3
  clear HB3 HC3
  rw [HEZ.out, HNB.out]
  have HL0 := Lib.hid (cf_load HB.out)
  go_wp2_with (first | refine wpList_load_row rfl 36 _ rfl ⟨b, 0, none⟩ _ rfl HL0.out ?_ | refine wpList_load_want (by rfl) 36 _ rfl ⟨b, 0, none⟩ _ rfl HL0.out ?_)
  refine (rcheck_any c _ _ ps _ (Lib.hid (hC.out.chg HC.out)) hS z HZ.out).mono ?_
  rintro e W3 ⟨rfl, H3⟩
  have HB3 := Lib.hid (HB.out.chg H3.out (by simp))
  have HC3 := Lib.hid (HC.out.trans H3.out (by simp))
  clear HL0 HB HC
  have HB := HB3
  have HC := HC3
  clear HB3 HC3
  rw [HEZ.out]
  have HL0 := Lib.hid (cf_load HB.out)
  go_wp2_with (first | refine wpList_load_row rfl 36 _ rfl ⟨b, 0, none⟩ _ rfl HL0.out ?_ | refine wpList_load_want (by rfl) 36 _ rfl ⟨b, 0, none⟩ _ rfl HL0.out ?_)
  refine (check_any c _ _ ps _ (Lib.hid (hE.out.chg HC.out)) (Lib.hid (hC.out.chg HC.out)) hS z HZ.out).mono ?_
  rintro e W3 ⟨rfl, H3⟩
  have HB3 := Lib.hid (HB.out.chg H3.out (by simp))
  have HC3 := Lib.hid (HC.out.trans H3.out (by simp))
  clear HL0 HB HC
  have HB := HB3
  have HC := HC3
  clear HB3 HC3
  rw [HEZ.out]
  cases z
  · obtain rfl : 3 = E := HEZ.out
    obtain rfl : 0 = NA := HNA.out
    obtain rfl : 0 = NT := HNT.out
    obtain rfl : 0 = NB := HNB.out
    go_wp2_with fail
    refine (cspeaks_any _ (Lib.hid (hE.out.chg HC.out))).mono ?_
    rintro e W8 ⟨rfl, H8⟩
    go_wp2_with fail
    go_ret
    exact ⟨rfl, HC.out.trans H8.out (by simp)⟩
  · obtain rfl : 0 = E := HEZ.out
    have HL0 := Lib.hid (cf_load HB.out)
    go_wp2_with (first | refine wpList_load_row rfl 36 _ rfl ⟨b, 0, none⟩ _ rfl HL0.out ?_ | refine wpList_load_want (by rfl) 36 _ rfl ⟨b, 0, none⟩ _ rfl HL0.out ?_)
    refine (rbounds_any c _ _ ps _ (Lib.hid (hC.out.chg HC.out)) HZ).mono ?_
    rintro e W3 ⟨rfl, H3⟩
    have HB3 := Lib.hid (HB.out.chg H3.out (by simp))
    have HC3 := Lib.hid (HC.out.trans H3.out (by simp))
    clear HL0 HB HC
    have HB := HB3
    have HC := HC3
    clear HB3 HC3
    rw [show connsN c = NA from HNA.out, show timersN c = NT from HNT.out, show bufN c = NB from HNB.out]
    go_wp2_with fail
    refine (cspeaks_any _ (Lib.hid (hE.out.chg HC.out))).mono ?_
    rintro e W8 ⟨rfl, H8⟩
    go_wp2_with fail
    go_ret
    exact ⟨rfl, HC.out.trans H8.out (by simp)⟩
end Go.Proofs.YtjndgkbikhndoaaGreatDoor
