/- Layer 14 (route): the walk of RouteTakes. -/
import Derived.Test.YtjndgkbikhndoaaGreatDoorY8
namespace Go.Proofs.YtjndgkbikhndoaaGreatDoor
open Go.RowKit Go.ChangeShapes Go.WideShapes
set_option linter.unusedVariables false
set_option linter.unusedSimpArgs false

/-- What lies in memory while RouteTakes runs. -/
structure S3 (b g a : Nat) (ml hl al : List Value) (W : World) : Prop where
  mb : Blk W b ml 24
  hb : Blk W g hl 27
  ab : Blk W a al 28
theorem S3.chg {b g a : Nat} {ml hl al : List Value} {W W' : World} (h : S3 b g a ml hl al W) (hc : Chg [] W W') : S3 b g a ml hl al W' := ⟨h.mb.chg hc (by simp), h.hb.chg hc (by simp), h.ab.chg hc (by simp)⟩
set_option maxHeartbeats 16000000 in
set_option maxRecDepth 100000 in
theorem lawTakes_any (m : Mt) (h : Hd) (mv fv : Value) (ho pa : ByteArray) (w : World) (hE : Hid (Env w)) (hms : Hid (Tbl w mv 1 (strRows m.methods))) (hfs : Hid (Flds w fv h.fields)) (hsz : Hid (MtSz m)) (hhz : Hid (HdSz h)) (hos : ho.size ≤ 1048576) (pas : pa.size ≤ 1048576) :
    Calls Tryz.prog 3 #[.agg (maRow m mv).toArray, .agg (hdRow h fv).toArray, .agg #[.string ho, .string pa]] w fun e w' => e = .returned (.bool true) ∧ Hid (Chg [] w w') := by
  obtain ⟨z, hz⟩ : ∃ z, takesB m h ho pa = z := ⟨_, rfl⟩
  obtain ⟨q, hq⟩ : ∃ q, covB m.pre pa = q := ⟨_, rfl⟩
  have HZ := Lib.hid hz
  have HQ := Lib.hid hq
  clear hz hq
  obtain ⟨host, pre, ms, hd, va⟩ := m
  obtain ⟨rq, me, tg, mi, st, re, fs⟩ := h
  have hps : pre.size ≤ 1048576 := hsz.out.pre
  have HB0 := Lib.hid (Blk.new w [.string host, .string pre, mv, .string hd, .string va] 24)
  have HG0 := Lib.hid (Blk.new (w.alloc (.cells #[.string host, .string pre, mv, .string hd, .string va] 24)) [.bool rq, .string me, .string tg, .int .i64 mi, .int .i64 st, .string re, fv] 27)
  have HA0 := Lib.hid (Blk.new ((w.alloc (.cells #[.string host, .string pre, mv, .string hd, .string va] 24)).alloc (.cells #[.bool rq, .string me, .string tg, .int .i64 mi, .int .i64 st, .string re, fv] 27)) [.string ho, .string pa] 28)
  have HSS := Lib.hid (show S3 w.heap.size (w.alloc (.cells #[.string host, .string pre, mv, .string hd, .string va] 24)).heap.size ((w.alloc (.cells #[.string host, .string pre, mv, .string hd, .string va] 24)).alloc (.cells #[.bool rq, .string me, .string tg, .int .i64 mi, .int .i64 st, .string re, fv] 27)).heap.size [.string host, .string pre, mv, .string hd, .string va] [.bool rq, .string me, .string tg, .int .i64 mi, .int .i64 st, .string re, fv] [.string ho, .string pa] (((w.alloc (.cells #[.string host, .string pre, mv, .string hd, .string va] 24)).alloc (.cells #[.bool rq, .string me, .string tg, .int .i64 mi, .int .i64 st, .string re, fv] 27)).alloc (.cells #[.string ho, .string pa] 28)) from ⟨(HB0.out.alloc _).alloc _, HG0.out.alloc _, HA0.out⟩)
  rw [show ((w.alloc (.cells #[.string host, .string pre, mv, .string hd, .string va] 24)).alloc (.cells #[.bool rq, .string me, .string tg, .int .i64 mi, .int .i64 st, .string re, fv] 27)).heap.size = w.heap.size + 1 + 1 by simp, show (w.alloc (.cells #[.string host, .string pre, mv, .string hd, .string va] 24)).heap.size = w.heap.size + 1 by simp] at HSS
  have HC0 := Lib.hid ((((Chg.refl [] w).alloc (.cells #[.string host, .string pre, mv, .string hd, .string va] 24)).alloc (.cells #[.bool rq, .string me, .string tg, .int .i64 mi, .int .i64 st, .string re, fv] 27)).alloc (.cells #[.string ho, .string pa] 28))
  clear HB0 HG0 HA0
  change Calls Tryz.prog 3 #[.agg #[.string host, .string pre, mv, .string hd, .string va], .agg #[.bool rq, .string me, .string tg, .int .i64 mi, .int .i64 st, .string re, fv], .agg #[.string ho, .string pa]] w _
  go_enter Tryz.func3, Tryz.ntmps3
  go_upto_region 1 with fail
  generalize ((w.alloc (.cells #[.string host, .string pre, mv, .string hd, .string va] 24)).alloc (.cells #[.bool rq, .string me, .string tg, .int .i64 mi, .int .i64 st, .string re, fv] 27)).alloc (.cells #[.string ho, .string pa] 28) = W1 at HSS HC0 ⊢
  generalize w.heap.size + 1 + 1 = a at HSS ⊢
  generalize w.heap.size + 1 = g at HSS ⊢
  generalize w.heap.size = b at HSS ⊢
  have HC := Lib.hid (HC0.out.drew)
  have HS := Lib.hid (HSS.out.chg (Chg.refl [] _).drew)
  refine wp_region_held_drew (S := fun W => Hid (S3 b g a [.string host, .string pre, mv, .string hd, .string va] [.bool rq, .string me, .string tg, .int .i64 mi, .int .i64 st, .string re, fv] [.string ho, .string pa] W)) (by kernel_rfl) HS (fun hHeld => ?_)
  refine wpAnyH_take (i := 0) (oi := ?oi0) (v := .agg ([.string host, .string pre, mv, .string hd, .string va]).toArray) ?hi0 (by kernel_rfl) (by kernel_rfl) (by kernel_rfl) ?hQ0 ?hy0 hHeld ?rest0
  case hi0 =>
    simp only [List.getElem?_toArray, List.getElem?_cons_zero]
    rfl
  case hQ0 => exact fun _ _ _ h => h
  case hy0 =>
    exact yields_row (by rfl) 24 _ rfl ⟨b, 0, none⟩ _ rfl (fun w hSw => load_row 24 _ ([.string host, .string pre, mv, .string hd, .string va]) Tryz.underlying24 rfl (by kernel_rfl) (fun j x hj => by rw [Nat.zero_add]; exact hSw.out.mb.cell j x hj))
  try simp only [Act.put, List.setIfInBounds_toArray, List.set_cons_zero, List.set_cons_succ]
  refine wpAnyH_take (i := 1) (oi := ?oi1) (v := .agg ([.bool rq, .string me, .string tg, .int .i64 mi, .int .i64 st, .string re, fv]).toArray) ?hi1 (by kernel_rfl) (by kernel_rfl) (by kernel_rfl) ?hQ1 ?hy1 hHeld ?rest1
  case hi1 =>
    simp only [List.getElem?_toArray, List.getElem?_cons_succ, List.getElem?_cons_zero]
    rfl
  case hQ1 => exact fun _ _ _ h => h
  case hy1 =>
    exact yields_row (by rfl) 27 _ rfl ⟨g, 0, none⟩ _ rfl (fun w hSw => load_row 27 _ ([.bool rq, .string me, .string tg, .int .i64 mi, .int .i64 st, .string re, fv]) Tryz.underlying27 rfl (by kernel_rfl) (fun j x hj => by rw [Nat.zero_add]; exact hSw.out.hb.cell j x hj))
  try simp only [Act.put, List.setIfInBounds_toArray, List.set_cons_zero, List.set_cons_succ]
  refine wpAnyH_take (i := 2) (oi := ?oi2) (v := (.pointer (some ⟨a, 0, none⟩))) ?hi2 (by kernel_rfl) (by kernel_rfl) (by kernel_rfl) ?hQ2 ?hy2 hHeld ?rest2
  case hi2 =>
    simp only [List.getElem?_toArray, List.getElem?_cons_succ, List.getElem?_cons_zero]
    rfl
  case hQ2 => exact fun _ _ _ h => h
  case hy2 =>
    refine Or.inl ⟨by rfl, ?_⟩
    intro w hSw
    go_simp
  try simp only [Act.put, List.setIfInBounds_toArray, List.set_cons_zero, List.set_cons_succ]
  refine wpAnyH_take (i := 3) (oi := ?oi3) (v := (.string ho)) ?hi3 (by kernel_rfl) (by kernel_rfl) (by kernel_rfl) ?hQ3 ?hy3 hHeld ?rest3
  case hi3 =>
    simp only [List.getElem?_toArray, List.getElem?_cons_succ, List.getElem?_cons_zero]
    rfl
  case hQ3 => exact fun _ _ _ h => h
  case hy3 =>
    refine Or.inl ⟨by rfl, ?_⟩
    intro w hSw
    have hcc := hSw.out.ab.cell 0 _ rfl
    go_simp
  try simp only [Act.put, List.setIfInBounds_toArray, List.set_cons_zero, List.set_cons_succ]
  refine wpAnyH_take (i := 4) (oi := ?oi4) (v := (.pointer (some ⟨a, 1, none⟩))) ?hi4 (by kernel_rfl) (by kernel_rfl) (by kernel_rfl) ?hQ4 ?hy4 hHeld ?rest4
  case hi4 =>
    simp only [List.getElem?_toArray, List.getElem?_cons_succ, List.getElem?_cons_zero]
    rfl
  case hQ4 => exact fun _ _ _ h => h
  case hy4 =>
    refine Or.inl ⟨by rfl, ?_⟩
    intro w hSw
    go_simp
  try simp only [Act.put, List.setIfInBounds_toArray, List.set_cons_zero, List.set_cons_succ]
  refine wpAnyH_take (i := 5) (oi := ?oi5) (v := (.string pa)) ?hi5 (by kernel_rfl) (by kernel_rfl) (by kernel_rfl) ?hQ5 ?hy5 hHeld ?rest5
  case hi5 =>
    simp only [List.getElem?_toArray, List.getElem?_cons_succ, List.getElem?_cons_zero]
    rfl
  case hQ5 => exact fun _ _ _ h => h
  case hy5 =>
    refine Or.inl ⟨by rfl, ?_⟩
    intro w hSw
    have hcc := hSw.out.ab.cell 1 _ rfl
    go_simp
  try simp only [Act.put, List.setIfInBounds_toArray, List.set_cons_zero, List.set_cons_succ]
  refine wpAnyH_take (i := 7) (oi := ?oi7) (v := .agg ([.string host, .string pre, mv, .string hd, .string va]).toArray) ?hi7 (by kernel_rfl) (by kernel_rfl) (by kernel_rfl) ?hQ7 ?hy7 hHeld ?rest7
  case hi7 =>
    simp only [List.getElem?_toArray, List.getElem?_cons_succ, List.getElem?_cons_zero]
    rfl
  case hQ7 => exact fun _ _ _ h => h
  case hy7 =>
    exact yields_row (by rfl) 24 _ rfl ⟨b, 0, none⟩ _ rfl (fun w hSw => load_row 24 _ ([.string host, .string pre, mv, .string hd, .string va]) Tryz.underlying24 rfl (by kernel_rfl) (fun j x hj => by rw [Nat.zero_add]; exact hSw.out.mb.cell j x hj))
  try simp only [Act.put, List.setIfInBounds_toArray, List.set_cons_zero, List.set_cons_succ]
  refine wpAnyH_take (i := 8) (oi := ?oi8) (v := .agg ([.bool rq, .string me, .string tg, .int .i64 mi, .int .i64 st, .string re, fv]).toArray) ?hi8 (by kernel_rfl) (by kernel_rfl) (by kernel_rfl) ?hQ8 ?hy8 hHeld ?rest8
  case hi8 =>
    simp only [List.getElem?_toArray, List.getElem?_cons_succ, List.getElem?_cons_zero]
    rfl
  case hQ8 => exact fun _ _ _ h => h
  case hy8 =>
    exact yields_row (by rfl) 27 _ rfl ⟨g, 0, none⟩ _ rfl (fun w hSw => load_row 27 _ ([.bool rq, .string me, .string tg, .int .i64 mi, .int .i64 st, .string re, fv]) Tryz.underlying27 rfl (by kernel_rfl) (fun j x hj => by rw [Nat.zero_add]; exact hSw.out.hb.cell j x hj))
  try simp only [Act.put, List.setIfInBounds_toArray, List.set_cons_zero, List.set_cons_succ]
  refine wpAnyH_take (i := 9) (oi := ?oi9) (v := (.pointer (some ⟨a, 0, none⟩))) ?hi9 (by kernel_rfl) (by kernel_rfl) (by kernel_rfl) ?hQ9 ?hy9 hHeld ?rest9
  case hi9 =>
    simp only [List.getElem?_toArray, List.getElem?_cons_succ, List.getElem?_cons_zero]
    rfl
  case hQ9 => exact fun _ _ _ h => h
  case hy9 =>
    refine Or.inl ⟨by rfl, ?_⟩
    intro w hSw
    go_simp
  try simp only [Act.put, List.setIfInBounds_toArray, List.set_cons_zero, List.set_cons_succ]
  refine wpAnyH_take (i := 10) (oi := ?oi10) (v := (.string ho)) ?hi10 (by kernel_rfl) (by kernel_rfl) (by kernel_rfl) ?hQ10 ?hy10 hHeld ?rest10
  case hi10 =>
    simp only [List.getElem?_toArray, List.getElem?_cons_succ, List.getElem?_cons_zero]
    rfl
  case hQ10 => exact fun _ _ _ h => h
  case hy10 =>
    refine Or.inl ⟨by rfl, ?_⟩
    intro w hSw
    have hcc := hSw.out.ab.cell 0 _ rfl
    go_simp
  try simp only [Act.put, List.setIfInBounds_toArray, List.set_cons_zero, List.set_cons_succ]
  refine wpAnyH_take (i := 11) (oi := ?oi11) (v := (.pointer (some ⟨a, 1, none⟩))) ?hi11 (by kernel_rfl) (by kernel_rfl) (by kernel_rfl) ?hQ11 ?hy11 hHeld ?rest11
  case hi11 =>
    simp only [List.getElem?_toArray, List.getElem?_cons_succ, List.getElem?_cons_zero]
    rfl
  case hQ11 => exact fun _ _ _ h => h
  case hy11 =>
    refine Or.inl ⟨by rfl, ?_⟩
    intro w hSw
    go_simp
  try simp only [Act.put, List.setIfInBounds_toArray, List.set_cons_zero, List.set_cons_succ]
  refine wpAnyH_take (i := 12) (oi := ?oi12) (v := (.string pa)) ?hi12 (by kernel_rfl) (by kernel_rfl) (by kernel_rfl) ?hQ12 ?hy12 hHeld ?rest12
  case hi12 =>
    simp only [List.getElem?_toArray, List.getElem?_cons_succ, List.getElem?_cons_zero]
    rfl
  case hQ12 => exact fun _ _ _ h => h
  case hy12 =>
    refine Or.inl ⟨by rfl, ?_⟩
    intro w hSw
    have hcc := hSw.out.ab.cell 1 _ rfl
    go_simp
  try simp only [Act.put, List.setIfInBounds_toArray, List.set_cons_zero, List.set_cons_succ]
  refine wpAnyH_ready (rs := [6]) (by kernel_rfl) (by simp) ?_
  refine AllReadyH.cons rfl (fun K hK => ?_) AllReadyH.nil
  go_simp
  refine (takesM_any ⟨host, pre, ms, hd, va⟩ ⟨rq, me, tg, mi, st, re, fs⟩ mv fv ho pa _ (Lib.hid (hms.out.chg HC.out)) (Lib.hid (hfs.out.chg HC.out)) hsz hhz hos pas z HZ.out).mono ?_
  rintro e w3 ⟨rfl, H3⟩
  have HC3 := Lib.hid (HC.out.trans H3.out (by simp))
  have HS3 := Lib.hid (HS.out.chg H3.out)
  clear HC HS
  have HC := HC3
  have HS := HS3
  clear HC3 HS3
  go_wp2_with fail
  refine hK.out _ _ HS (fun hHeld => ?_)
  clear hK K
  try simp only [Act.put, List.setIfInBounds_toArray, List.set_cons_zero, List.set_cons_succ]
  refine wpAnyH_ready (rs := [13]) (by kernel_rfl) (by simp) ?_
  refine AllReadyH.cons rfl (fun K hK => ?_) AllReadyH.nil
  go_simp
  refine (rtakesM_any ⟨host, pre, ms, hd, va⟩ ⟨rq, me, tg, mi, st, re, fs⟩ mv fv ho pa _ (Lib.hid (hms.out.chg HC.out)) (Lib.hid (hfs.out.chg HC.out)) hsz hhz hos pas z HZ.out).mono ?_
  rintro e w3 ⟨rfl, H3⟩
  have HC3 := Lib.hid (HC.out.trans H3.out (by simp))
  have HS3 := Lib.hid (HS.out.chg H3.out)
  clear HC HS
  have HC := HC3
  have HS := HS3
  clear HC3 HS3
  go_wp2_with fail
  refine hK.out _ _ HS (fun hHeld => ?_)
  clear hK K
  try simp only [Act.put, List.setIfInBounds_toArray, List.set_cons_zero, List.set_cons_succ]
  refine wpAnyH_take (i := 14) (oi := ?oi14) (v := (.bool true)) ?hi14 (by kernel_rfl) (by kernel_rfl) (by kernel_rfl) ?hQ14 ?hy14 hHeld ?rest14
  case hi14 =>
    simp only [List.getElem?_toArray, List.getElem?_cons_succ, List.getElem?_cons_zero]
    rfl
  case hQ14 => exact fun _ _ _ h => h
  case hy14 =>
    refine Or.inl ⟨by rfl, ?_⟩
    intro w hSw
    go_simp
  try simp only [Act.put, List.setIfInBounds_toArray, List.set_cons_zero, List.set_cons_succ]
  refine wpAnyH_take (i := 15) (oi := ?oi15) (v := (.bool true)) ?hi15 (by kernel_rfl) (by kernel_rfl) (by kernel_rfl) ?hQ15 ?hy15 hHeld ?rest15
  case hi15 =>
    simp only [List.getElem?_toArray, List.getElem?_cons_succ, List.getElem?_cons_zero]
    rfl
  case hQ15 => exact fun _ _ _ h => h
  case hy15 =>
    refine Or.inl ⟨by rfl, ?_⟩
    intro w hSw
    go_simp
  try simp only [Act.put, List.setIfInBounds_toArray, List.set_cons_zero, List.set_cons_succ]
  refine wpAnyH_take (i := 16) (oi := ?oi16) (v := (.pointer (some ⟨b, 1, none⟩))) ?hi16 (by kernel_rfl) (by kernel_rfl) (by kernel_rfl) ?hQ16 ?hy16 hHeld ?rest16
  case hi16 =>
    simp only [List.getElem?_toArray, List.getElem?_cons_succ, List.getElem?_cons_zero]
    rfl
  case hQ16 => exact fun _ _ _ h => h
  case hy16 =>
    refine Or.inl ⟨by rfl, ?_⟩
    intro w hSw
    go_simp
  try simp only [Act.put, List.setIfInBounds_toArray, List.set_cons_zero, List.set_cons_succ]
  refine wpAnyH_take (i := 17) (oi := ?oi17) (v := (.string pre)) ?hi17 (by kernel_rfl) (by kernel_rfl) (by kernel_rfl) ?hQ17 ?hy17 hHeld ?rest17
  case hi17 =>
    simp only [List.getElem?_toArray, List.getElem?_cons_succ, List.getElem?_cons_zero]
    rfl
  case hQ17 => exact fun _ _ _ h => h
  case hy17 =>
    refine Or.inl ⟨by rfl, ?_⟩
    intro w hSw
    have hcc := hSw.out.mb.cell 1 _ rfl
    go_simp
  try simp only [Act.put, List.setIfInBounds_toArray, List.set_cons_zero, List.set_cons_succ]
  refine wpAnyH_take (i := 18) (oi := ?oi18) (v := (.pointer (some ⟨a, 1, none⟩))) ?hi18 (by kernel_rfl) (by kernel_rfl) (by kernel_rfl) ?hQ18 ?hy18 hHeld ?rest18
  case hi18 =>
    simp only [List.getElem?_toArray, List.getElem?_cons_succ, List.getElem?_cons_zero]
    rfl
  case hQ18 => exact fun _ _ _ h => h
  case hy18 =>
    refine Or.inl ⟨by rfl, ?_⟩
    intro w hSw
    go_simp
  try simp only [Act.put, List.setIfInBounds_toArray, List.set_cons_zero, List.set_cons_succ]
  refine wpAnyH_take (i := 19) (oi := ?oi19) (v := (.string pa)) ?hi19 (by kernel_rfl) (by kernel_rfl) (by kernel_rfl) ?hQ19 ?hy19 hHeld ?rest19
  case hi19 =>
    simp only [List.getElem?_toArray, List.getElem?_cons_succ, List.getElem?_cons_zero]
    rfl
  case hQ19 => exact fun _ _ _ h => h
  case hy19 =>
    refine Or.inl ⟨by rfl, ?_⟩
    intro w hSw
    have hcc := hSw.out.ab.cell 1 _ rfl
    go_simp
  try simp only [Act.put, List.setIfInBounds_toArray, List.set_cons_zero, List.set_cons_succ]
  refine wpAnyH_take (i := 21) (oi := ?oi21) (v := (.pointer (some ⟨b, 1, none⟩))) ?hi21 (by kernel_rfl) (by kernel_rfl) (by kernel_rfl) ?hQ21 ?hy21 hHeld ?rest21
  case hi21 =>
    simp only [List.getElem?_toArray, List.getElem?_cons_succ, List.getElem?_cons_zero]
    rfl
  case hQ21 => exact fun _ _ _ h => h
  case hy21 =>
    refine Or.inl ⟨by rfl, ?_⟩
    intro w hSw
    go_simp
  try simp only [Act.put, List.setIfInBounds_toArray, List.set_cons_zero, List.set_cons_succ]
  refine wpAnyH_take (i := 22) (oi := ?oi22) (v := (.string pre)) ?hi22 (by kernel_rfl) (by kernel_rfl) (by kernel_rfl) ?hQ22 ?hy22 hHeld ?rest22
  case hi22 =>
    simp only [List.getElem?_toArray, List.getElem?_cons_succ, List.getElem?_cons_zero]
    rfl
  case hQ22 => exact fun _ _ _ h => h
  case hy22 =>
    refine Or.inl ⟨by rfl, ?_⟩
    intro w hSw
    have hcc := hSw.out.mb.cell 1 _ rfl
    go_simp
  try simp only [Act.put, List.setIfInBounds_toArray, List.set_cons_zero, List.set_cons_succ]
  refine wpAnyH_take (i := 23) (oi := ?oi23) (v := (.pointer (some ⟨a, 1, none⟩))) ?hi23 (by kernel_rfl) (by kernel_rfl) (by kernel_rfl) ?hQ23 ?hy23 hHeld ?rest23
  case hi23 =>
    simp only [List.getElem?_toArray, List.getElem?_cons_succ, List.getElem?_cons_zero]
    rfl
  case hQ23 => exact fun _ _ _ h => h
  case hy23 =>
    refine Or.inl ⟨by rfl, ?_⟩
    intro w hSw
    go_simp
  try simp only [Act.put, List.setIfInBounds_toArray, List.set_cons_zero, List.set_cons_succ]
  refine wpAnyH_take (i := 24) (oi := ?oi24) (v := (.string pa)) ?hi24 (by kernel_rfl) (by kernel_rfl) (by kernel_rfl) ?hQ24 ?hy24 hHeld ?rest24
  case hi24 =>
    simp only [List.getElem?_toArray, List.getElem?_cons_succ, List.getElem?_cons_zero]
    rfl
  case hQ24 => exact fun _ _ _ h => h
  case hy24 =>
    refine Or.inl ⟨by rfl, ?_⟩
    intro w hSw
    have hcc := hSw.out.ab.cell 1 _ rfl
    go_simp
  try simp only [Act.put, List.setIfInBounds_toArray, List.set_cons_zero, List.set_cons_succ]
  refine wpAnyH_ready (rs := [20]) (by kernel_rfl) (by simp) ?_
  refine AllReadyH.cons rfl (fun K hK => ?_) AllReadyH.nil
  go_simp
  refine (covers_any pre pa _ hps pas q HQ.out).mono ?_
  rintro e w3 ⟨rfl, rfl⟩
  go_wp2_with fail
  refine hK.out _ _ HS (fun hHeld => ?_)
  clear hK K
  try simp only [Act.put, List.setIfInBounds_toArray, List.set_cons_zero, List.set_cons_succ]
  refine wpAnyH_ready (rs := [25]) (by kernel_rfl) (by simp) ?_
  refine AllReadyH.cons rfl (fun K hK => ?_) AllReadyH.nil
  go_simp
  refine (rcovers_any pre pa _ hps pas q HQ.out).mono ?_
  rintro e w3 ⟨rfl, rfl⟩
  go_wp2_with fail
  refine hK.out _ _ HS (fun hHeld => ?_)
  clear hK K
  try simp only [Act.put, List.setIfInBounds_toArray, List.set_cons_zero, List.set_cons_succ]
  refine wpAnyH_take (i := 26) (oi := ?oi26) (v := (.bool true)) ?hi26 (by kernel_rfl) (by kernel_rfl) (by kernel_rfl) ?hQ26 ?hy26 hHeld ?rest26
  case hi26 =>
    simp only [List.getElem?_toArray, List.getElem?_cons_succ, List.getElem?_cons_zero]
    rfl
  case hQ26 => exact fun _ _ _ h => h
  case hy26 =>
    refine Or.inl ⟨by rfl, ?_⟩
    intro w hSw
    go_simp
  try simp only [Act.put, List.setIfInBounds_toArray, List.set_cons_zero, List.set_cons_succ]
  refine wpAnyH_take (i := 27) (oi := ?oi27) (v := (.bool true)) ?hi27 (by kernel_rfl) (by kernel_rfl) (by kernel_rfl) ?hQ27 ?hy27 hHeld ?rest27
  case hi27 =>
    simp only [List.getElem?_toArray, List.getElem?_cons_succ, List.getElem?_cons_zero]
    rfl
  case hQ27 => exact fun _ _ _ h => h
  case hy27 =>
    refine Or.inl ⟨by rfl, ?_⟩
    intro w hSw
    go_simp
  try simp only [Act.put, List.setIfInBounds_toArray, List.set_cons_zero, List.set_cons_succ]
  refine wpAnyH_take (i := 28) (oi := ?oi28) (v := (.bool true)) ?hi28 (by kernel_rfl) (by kernel_rfl) (by kernel_rfl) ?hQ28 ?hy28 hHeld ?rest28
  case hi28 =>
    simp only [List.getElem?_toArray, List.getElem?_cons_succ, List.getElem?_cons_zero]
    rfl
  case hQ28 => exact fun _ _ _ h => h
  case hy28 =>
    refine Or.inl ⟨by rfl, ?_⟩
    intro w hSw
    go_simp
  try simp only [Act.put, List.setIfInBounds_toArray, List.set_cons_zero, List.set_cons_succ]
  refine wpAnyH_ready (rs := [29]) (by kernel_rfl) (by simp) ?_
  refine AllReadyH.cons rfl (fun K hK => ?_) AllReadyH.nil
  go_simp
  refine (ospeaks_any _ (Lib.hid (hE.out.chg HC.out))).mono ?_
  rintro e w3 ⟨rfl, H3⟩
  have HC3 := Lib.hid (HC.out.trans H3.out (by simp))
  have HS3 := Lib.hid (HS.out.chg H3.out)
  clear HC HS
  have HC := HC3
  have HS := HS3
  clear HC3 HS3
  go_wp2_with fail
  refine hK.out _ _ HS (fun hHeld => ?_)
  clear hK K
  try simp only [Act.put, List.setIfInBounds_toArray, List.set_cons_zero, List.set_cons_succ]
  refine wpAnyH_take (i := 30) (oi := ?oi30) (v := (.bool true)) ?hi30 (by kernel_rfl) (by kernel_rfl) (by kernel_rfl) ?hQ30 ?hy30 hHeld ?rest30
  case hi30 =>
    simp only [List.getElem?_toArray, List.getElem?_cons_succ, List.getElem?_cons_zero]
    rfl
  case hQ30 => exact fun _ _ _ h => h
  case hy30 =>
    refine Or.inl ⟨by rfl, ?_⟩
    intro w hSw
    go_simp
  try simp only [Act.put, List.setIfInBounds_toArray, List.set_cons_zero, List.set_cons_succ]
  refine wpAnyH_take (i := 31) (oi := ?oi31) (v := (.bool true)) ?hi31 (by kernel_rfl) (by kernel_rfl) (by kernel_rfl) ?hQ31 ?hy31 hHeld ?rest31
  case hi31 =>
    simp only [List.getElem?_toArray, List.getElem?_cons_succ, List.getElem?_cons_zero]
    rfl
  case hQ31 => exact fun _ _ _ h => h
  case hy31 =>
    refine Or.inl ⟨by rfl, ?_⟩
    intro w hSw
    go_simp
  try simp only [Act.put, List.setIfInBounds_toArray, List.set_cons_zero, List.set_cons_succ]
  refine wpAnyH_done (by kernel_rfl) ?_ _
  go_wp2_with fail
  go_ret
  exact ⟨rfl, HC.out⟩
end Go.Proofs.YtjndgkbikhndoaaGreatDoor
