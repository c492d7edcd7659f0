/- Layer 14 (route), the program: which of two routes is better. -/
import Derived.Test.YtjndgkbikhndoaaGreatDoorYB
import Derived.Test.YtjndgkbikhndoaaGreatDoorX1
namespace Go.Proofs.YtjndgkbikhndoaaGreatDoor
open Go.RowKit Go.ChangeShapes Go.WideShapes
set_option linter.unusedVariables false

/-- What lies in memory while two routes are compared. -/
structure S2 (p q : Nat) (xl yl : List Value) (W : World) : Prop where
  xb : Blk W p xl 24
  yb : Blk W q yl 24
theorem S2.chg {p q : Nat} {xl yl : List Value} {W W' : World} (h : S2 p q xl yl W) (hc : Chg [] W W') : S2 p q xl yl W' := ⟨h.xb.chg hc (by simp), h.yb.chg hc (by simp)⟩

def bestZ (x y : Mt) (a b : Int) : Int := orZ [cmpZ (rankZ y.host) (rankZ x.host), cmpZ y.pre.size x.pre.size, cmpZ a b]
theorem rt_cells {w : World} {c : Cf} {hv rv : Value} {ps : List (Value × Value)} (hC : CfAt w c hv rv ps) {i : Nat} {r : Rt} (hi : c.routes[i]? = some r) :
    ∃ Am lm cm bk o cap, rv = .slice (some ⟨bk, o, none⟩) c.routes.length cap ∧ c.routes.length ≤ cap ∧ bk < w.heap.size ∧ w.cell? ⟨bk, o + i * 21, none⟩ = some (.string r.m.host) ∧ w.cell? ⟨bk, o + i * 21 + 1, none⟩ = some (.string r.m.pre) ∧ w.cell? ⟨bk, o + i * 21 + 2, none⟩ = some (.slice Am lm cm) ∧ w.cell? ⟨bk, o + i * 21 + 3, none⟩ = some (.string r.m.header) ∧ w.cell? ⟨bk, o + i * 21 + 4, none⟩ = some (.string r.m.value) := by
  have hl := hC.rs.len
  have hil := (List.getElem?_eq_some_iff.1 hi).1
  obtain ⟨p, hp⟩ : ∃ p, ps[i]? = some p := ⟨_, List.getElem?_eq_getElem (by omega)⟩
  have hrow : ((c.routes.zip ps).map (fun x => rtRow x.1 x.2.1 x.2.2))[i]? = some (rtRow r p.1 p.2) := by
    rw [List.getElem?_map, (List.getElem?_zip_eq_some (z := (r, p))).2 ⟨hi, hp⟩]
    rfl
  have hl2 : ((c.routes.zip ps).map (fun x => rtRow x.1 x.2.1 x.2.2)).length = c.routes.length := by
    rw [List.length_map, List.length_zip]
    omega
  obtain ⟨A, cap, rfl, hcap, h3⟩ := hC.rs.tb
  rw [hl2] at hcap h3 ⊢
  obtain ⟨bk, o, rfl, hb, hx⟩ := h3 (by omega)
  obtain ⟨Am, cm, hm⟩ := (hC.rs.each i r p hi hp).ms.form
  rw [hm] at hrow
  exact ⟨Am, _, cm, bk, o, cap, rfl, hcap, hb, hx i _ hrow 0 _ rfl, hx i _ hrow 1 _ rfl, hx i _ hrow 2 _ rfl, hx i _ hrow 3 _ rfl, hx i _ hrow 4 _ rfl⟩
set_option maxHeartbeats 8000000 in
set_option maxRecDepth 100000 in
theorem better_any (c : Cf) (hv rv : Value) (ps : List (Value × Value)) (b i j : Nat) (x y : Rt) (w : World) (hC : Hid (CfAt w c hv rv ps)) (hb : Hid (Blk w b (cfRow c hv rv) 36)) (hi : c.routes[i]? = some x) (hj : c.routes[j]? = some y) (hn : c.routes.length ≤ 1048576) (z : Int) (hz : bestZ x.m y.m i j = z) :
    Calls Tryz.prog 40 #[.int .i64 i, .int .i64 j, .pointer (some ⟨b, 0, none⟩)] w fun e w' => e = .returned (.int .i64 z) ∧ Hid (Chg [] w w') := by
  have hil := (List.getElem?_eq_some_iff.1 hi).1
  have hjl := (List.getElem?_eq_some_iff.1 hj).1
  obtain ⟨Am, lm, cm, bk, o, cap, rfl, hcap, hbk, e0, e1, e2, e3, e4⟩ := rt_cells hC.out hi
  obtain ⟨An, ln, cn, bk2, o2, cap2, he, hcap2, hbk2, f0, f1, f2, f3, f4⟩ := rt_cells hC.out hj
  injection he with he1 he2 he3
  injection he1 with he1
  injection he1 with he4 he5
  subst he4 he5 he3
  clear he2 hcap2 hbk2
  have c1 := hb.out.cell 1 _ rfl
  have hbl := hb.out.lt
  have HZ := Lib.hid hz
  obtain ⟨⟨xh, xp, xm, xd, xv⟩, _⟩ := x
  obtain ⟨⟨yh, yp, ym, yd, yv⟩, _⟩ := y
  dsimp only at e0 e1 e3 e4 f0 f1 f3 f4 HZ
  clear hz hi hj
  go_enter Tryz.func40, Tryz.ntmps40
  go_upto_region 1 with fail
  go_cut [6, 7] (fun s6 s7 wx => ∃ p q : Nat, s6 = .pointer (some ⟨p, 0, none⟩) ∧ s7 = .pointer (some ⟨q, 0, none⟩) ∧ Hid (S2 p q [.string xh, .string xp, .slice Am lm cm, .string xd, .string xv] [.string yh, .string yp, .slice An ln cn, .string yd, .string yv] wx) ∧ Hid (Chg [] w wx))
  case first =>
    have hX1 := Lib.hid (show S2 w.heap.size (w.heap.size + 1) [.string xh, .string xp, .slice Am lm cm, .string xd, .string xv] [.string yh, .string yp, .slice An ln cn, .string yd, .string yv] ((w.alloc (.cells #[.string xh, .string xp, .slice Am lm cm, .string xd, .string xv] 24)).alloc (.cells #[.string yh, .string yp, .slice An ln cn, .string yd, .string yv] 24)).drew from
      ⟨((Blk.new w [.string xh, .string xp, .slice Am lm cm, .string xd, .string xv] 24).alloc _).chg (Chg.refl [] _).drew (by simp), (by have q := Blk.new (w.alloc (.cells #[.string xh, .string xp, .slice Am lm cm, .string xd, .string xv] 24)) [.string yh, .string yp, .slice An ln cn, .string yd, .string yv] 24; rw [show (w.alloc (.cells #[.string xh, .string xp, .slice Am lm cm, .string xd, .string xv] 24)).heap.size = w.heap.size + 1 by simp] at q; exact q.chg (Chg.refl [] _).drew (by simp))⟩)
    have hX2 := Lib.hid (show S2 (w.heap.size + 1) w.heap.size [.string xh, .string xp, .slice Am lm cm, .string xd, .string xv] [.string yh, .string yp, .slice An ln cn, .string yd, .string yv] ((w.alloc (.cells #[.string yh, .string yp, .slice An ln cn, .string yd, .string yv] 24)).alloc (.cells #[.string xh, .string xp, .slice Am lm cm, .string xd, .string xv] 24)).drew from
      ⟨(by have q := Blk.new (w.alloc (.cells #[.string yh, .string yp, .slice An ln cn, .string yd, .string yv] 24)) [.string xh, .string xp, .slice Am lm cm, .string xd, .string xv] 24; rw [show (w.alloc (.cells #[.string yh, .string yp, .slice An ln cn, .string yd, .string yv] 24)).heap.size = w.heap.size + 1 by simp] at q; exact q.chg (Chg.refl [] _).drew (by simp)), ((Blk.new w [.string yh, .string yp, .slice An ln cn, .string yd, .string yv] 24).alloc _).chg (Chg.refl [] _).drew (by simp)⟩)
    have hC1 := Lib.hid ((((Chg.refl [] w).alloc (.cells #[.string xh, .string xp, .slice Am lm cm, .string xd, .string xv] 24)).alloc (.cells #[.string yh, .string yp, .slice An ln cn, .string yd, .string yv] 24)).drew)
    have hC2 := Lib.hid ((((Chg.refl [] w).alloc (.cells #[.string yh, .string yp, .slice An ln cn, .string yd, .string yv] 24)).alloc (.cells #[.string xh, .string xp, .slice Am lm cm, .string xd, .string xv] 24)).drew)
    go_region
    · go_wp2_with fail
      go_meet
      first
      | exact ⟨_, _, rfl, rfl, hX1, hC1⟩
      | exact ⟨_, _, rfl, rfl, hX2, hC2⟩
    · go_wp2_with fail
      go_meet
      first
      | exact ⟨_, _, rfl, rfl, hX1, hC1⟩
      | exact ⟨_, _, rfl, rfl, hX2, hC2⟩
  case rest =>
  obtain ⟨p, q, rfl, rfl, HS0, HC0⟩ := hcut
  clear c1 e0 e1 e2 e3 e4 f0 f1 f2 f3 f4 hbl hbk
  have HC := Lib.hid HC0.out.drew
  have HS := Lib.hid (HS0.out.chg (Chg.refl [] _).drew)
  clear HC0 HS0
  go_upto_region 2 with fail
  obtain ⟨z1, hz1⟩ : ∃ z1, rankZ yh = z1 := ⟨_, rfl⟩
  obtain ⟨z2, hz2⟩ : ∃ z2, rankZ xh = z2 := ⟨_, rfl⟩
  obtain ⟨z3, hz3⟩ : ∃ z3, cmpZ z1 z2 = z3 := ⟨_, rfl⟩
  obtain ⟨z4, hz4⟩ : ∃ z4, cmpZ (yp.size : Int) (xp.size : Int) = z4 := ⟨_, rfl⟩
  obtain ⟨z5, hz5⟩ : ∃ z5, cmpZ (i : Int) (j : Int) = z5 := ⟨_, rfl⟩
  have HO := Lib.hid (show orZ [z3, z4, z5] = z from by rw [← HZ.out, ← hz5, ← hz4, ← hz3, ← hz2, ← hz1]; rfl)
  have Hz1 := Lib.hid hz1
  have Hz2 := Lib.hid hz2
  have Hz3 := Lib.hid hz3
  have Hz4 := Lib.hid hz4
  have Hz5 := Lib.hid hz5
  clear hz1 hz2 hz3 hz4 hz5
  refine wp_region_held_drew (S := fun W => Hid (S2 p q [.string xh, .string xp, .slice Am lm cm, .string xd, .string xv] [.string yh, .string yp, .slice An ln cn, .string yd, .string yv] W)) (by kernel_rfl) HS (fun hHeld => ?_)
  refine wpAnyH_take (i := 0) (oi := ?oi0) (v := .agg ([.string yh, .string yp, .slice An ln cn, .string yd, .string yv]).toArray) ?hi0 (by kernel_rfl) (by kernel_rfl) (by kernel_rfl) ?hQ0 ?hy0 hHeld ?rest0
  case hi0 =>
    simp only [List.getElem?_toArray, List.getElem?_cons_zero]
    rfl
  case hQ0 => exact fun _ _ _ h => h
  case hy0 =>
    exact yields_row (by rfl) 24 _ rfl ⟨q, 0, none⟩ _ rfl (fun w hSw => load_row 24 _ ([.string yh, .string yp, .slice An ln cn, .string yd, .string yv]) Tryz.underlying24 rfl (by kernel_rfl) (fun j x hj => by rw [Nat.zero_add]; exact hSw.out.yb.cell j x hj))
  try simp only [Act.put, List.setIfInBounds_toArray, List.set_cons_zero, List.set_cons_succ]
  refine wpAnyH_take (i := 2) (oi := ?oi2) (v := .agg ([.string xh, .string xp, .slice Am lm cm, .string xd, .string xv]).toArray) ?hi2 (by kernel_rfl) (by kernel_rfl) (by kernel_rfl) ?hQ2 ?hy2 hHeld ?rest2
  case hi2 =>
    simp only [List.getElem?_toArray, List.getElem?_cons_succ, List.getElem?_cons_zero]
    rfl
  case hQ2 => exact fun _ _ _ h => h
  case hy2 =>
    exact yields_row (by rfl) 24 _ rfl ⟨p, 0, none⟩ _ rfl (fun w hSw => load_row 24 _ ([.string xh, .string xp, .slice Am lm cm, .string xd, .string xv]) Tryz.underlying24 rfl (by kernel_rfl) (fun j x hj => by rw [Nat.zero_add]; exact hSw.out.xb.cell j x hj))
  try simp only [Act.put, List.setIfInBounds_toArray, List.set_cons_zero, List.set_cons_succ]
  refine wpAnyH_take (i := 5) (oi := ?oi5) (v := (.pointer (some ⟨q, 1, none⟩))) ?hi5 (by kernel_rfl) (by kernel_rfl) (by kernel_rfl) ?hQ5 ?hy5 hHeld ?rest5
  case hi5 =>
    simp only [List.getElem?_toArray, List.getElem?_cons_succ, List.getElem?_cons_zero]
    rfl
  case hQ5 => exact fun _ _ _ h => h
  case hy5 =>
    refine Or.inl ⟨by rfl, ?_⟩
    intro w hSw
    go_simp
  try simp only [Act.put, List.setIfInBounds_toArray, List.set_cons_zero, List.set_cons_succ]
  refine wpAnyH_take (i := 6) (oi := ?oi6) (v := (.string yp)) ?hi6 (by kernel_rfl) (by kernel_rfl) (by kernel_rfl) ?hQ6 ?hy6 hHeld ?rest6
  case hi6 =>
    simp only [List.getElem?_toArray, List.getElem?_cons_succ, List.getElem?_cons_zero]
    rfl
  case hQ6 => exact fun _ _ _ h => h
  case hy6 =>
    refine Or.inl ⟨by rfl, ?_⟩
    intro w hSw
    have hcc := hSw.out.yb.cell 1 _ rfl
    go_simp
  try simp only [Act.put, List.setIfInBounds_toArray, List.set_cons_zero, List.set_cons_succ]
  refine wpAnyH_take (i := 7) (oi := ?oi7) (v := (.int .i64 (yp.size : Int))) ?hi7 (by kernel_rfl) (by kernel_rfl) (by kernel_rfl) ?hQ7 ?hy7 hHeld ?rest7
  case hi7 =>
    simp only [List.getElem?_toArray, List.getElem?_cons_succ, List.getElem?_cons_zero]
    rfl
  case hQ7 => exact fun _ _ _ h => h
  case hy7 =>
    refine Or.inl ⟨by rfl, ?_⟩
    intro w hSw
    go_simp
  try simp only [Act.put, List.setIfInBounds_toArray, List.set_cons_zero, List.set_cons_succ]
  refine wpAnyH_take (i := 8) (oi := ?oi8) (v := (.pointer (some ⟨p, 1, none⟩))) ?hi8 (by kernel_rfl) (by kernel_rfl) (by kernel_rfl) ?hQ8 ?hy8 hHeld ?rest8
  case hi8 =>
    simp only [List.getElem?_toArray, List.getElem?_cons_succ, List.getElem?_cons_zero]
    rfl
  case hQ8 => exact fun _ _ _ h => h
  case hy8 =>
    refine Or.inl ⟨by rfl, ?_⟩
    intro w hSw
    go_simp
  try simp only [Act.put, List.setIfInBounds_toArray, List.set_cons_zero, List.set_cons_succ]
  refine wpAnyH_take (i := 9) (oi := ?oi9) (v := (.string xp)) ?hi9 (by kernel_rfl) (by kernel_rfl) (by kernel_rfl) ?hQ9 ?hy9 hHeld ?rest9
  case hi9 =>
    simp only [List.getElem?_toArray, List.getElem?_cons_succ, List.getElem?_cons_zero]
    rfl
  case hQ9 => exact fun _ _ _ h => h
  case hy9 =>
    refine Or.inl ⟨by rfl, ?_⟩
    intro w hSw
    have hcc := hSw.out.xb.cell 1 _ rfl
    go_simp
  try simp only [Act.put, List.setIfInBounds_toArray, List.set_cons_zero, List.set_cons_succ]
  refine wpAnyH_take (i := 10) (oi := ?oi10) (v := (.int .i64 (xp.size : Int))) ?hi10 (by kernel_rfl) (by kernel_rfl) (by kernel_rfl) ?hQ10 ?hy10 hHeld ?rest10
  case hi10 =>
    simp only [List.getElem?_toArray, List.getElem?_cons_succ, List.getElem?_cons_zero]
    rfl
  case hQ10 => exact fun _ _ _ h => h
  case hy10 =>
    refine Or.inl ⟨by rfl, ?_⟩
    intro w hSw
    go_simp
  try simp only [Act.put, List.setIfInBounds_toArray, List.set_cons_zero, List.set_cons_succ]
  refine wpAnyH_take (i := 12) (oi := ?oi12) (v := (.int .i64 (i : Int))) ?hi12 (by kernel_rfl) (by kernel_rfl) (by kernel_rfl) ?hQ12 ?hy12 hHeld ?rest12
  case hi12 =>
    simp only [List.getElem?_toArray, List.getElem?_cons_succ, List.getElem?_cons_zero]
    rfl
  case hQ12 => exact fun _ _ _ h => h
  case hy12 =>
    refine Or.inl ⟨by rfl, ?_⟩
    intro w hSw
    go_simp
  try simp only [Act.put, List.setIfInBounds_toArray, List.set_cons_zero, List.set_cons_succ]
  refine wpAnyH_take (i := 13) (oi := ?oi13) (v := (.int .i64 (j : Int))) ?hi13 (by kernel_rfl) (by kernel_rfl) (by kernel_rfl) ?hQ13 ?hy13 hHeld ?rest13
  case hi13 =>
    simp only [List.getElem?_toArray, List.getElem?_cons_succ, List.getElem?_cons_zero]
    rfl
  case hQ13 => exact fun _ _ _ h => h
  case hy13 =>
    refine Or.inl ⟨by rfl, ?_⟩
    intro w hSw
    go_simp
  try simp only [Act.put, List.setIfInBounds_toArray, List.set_cons_zero, List.set_cons_succ]
  refine wpAnyH_ready (rs := [1]) (by kernel_rfl) (by simp) ?_
  refine AllReadyH.cons rfl (fun K hK => ?_) AllReadyH.nil
  go_simp
  refine (rank_any ⟨yh, yp, [], yd, yv⟩ (.slice An ln cn) _ z1 Hz1.out).mono ?_
  rintro e w3 ⟨rfl, H3⟩
  have HC3 := Lib.hid (HC.out.trans H3.out (by simp))
  have HS3 := Lib.hid (HS.out.chg H3.out)
  clear HC HS
  have HC := HC3
  have HS := HS3
  clear HC3 HS3
  go_wp2_with fail
  refine hK.out _ _ HS (fun hHeld => ?_)
  clear hK K
  try simp only [Act.put, List.setIfInBounds_toArray, List.set_cons_zero, List.set_cons_succ]
  refine wpAnyH_ready (rs := [3]) (by kernel_rfl) (by simp) ?_
  refine AllReadyH.cons rfl (fun K hK => ?_) AllReadyH.nil
  go_simp
  refine (rank_any ⟨xh, xp, [], xd, xv⟩ (.slice Am lm cm) _ z2 Hz2.out).mono ?_
  rintro e w3 ⟨rfl, H3⟩
  have HC3 := Lib.hid (HC.out.trans H3.out (by simp))
  have HS3 := Lib.hid (HS.out.chg H3.out)
  clear HC HS
  have HC := HC3
  have HS := HS3
  clear HC3 HS3
  go_wp2_with fail
  refine hK.out _ _ HS (fun hHeld => ?_)
  clear hK K
  try simp only [Act.put, List.setIfInBounds_toArray, List.set_cons_zero, List.set_cons_succ]
  refine wpAnyH_ready (rs := [4]) (by kernel_rfl) (by simp) ?_
  refine AllReadyH.cons rfl (fun K hK => ?_) AllReadyH.nil
  go_simp
  refine (cmp_any z1 z2 _ z3 Hz3.out).mono ?_
  rintro e w3 ⟨rfl, rfl⟩
  go_wp2_with fail
  refine hK.out _ _ HS (fun hHeld => ?_)
  clear hK K
  try simp only [Act.put, List.setIfInBounds_toArray, List.set_cons_zero, List.set_cons_succ]
  refine wpAnyH_ready (rs := [11]) (by kernel_rfl) (by simp) ?_
  refine AllReadyH.cons rfl (fun K hK => ?_) AllReadyH.nil
  go_simp
  refine (cmp_any (yp.size : Int) (xp.size : Int) _ z4 Hz4.out).mono ?_
  rintro e w3 ⟨rfl, rfl⟩
  go_wp2_with fail
  refine hK.out _ _ HS (fun hHeld => ?_)
  clear hK K
  try simp only [Act.put, List.setIfInBounds_toArray, List.set_cons_zero, List.set_cons_succ]
  refine wpAnyH_ready (rs := [14]) (by kernel_rfl) (by simp) ?_
  refine AllReadyH.cons rfl (fun K hK => ?_) AllReadyH.nil
  go_simp
  refine (cmp_any (i : Int) (j : Int) _ z5 Hz5.out).mono ?_
  rintro e w3 ⟨rfl, rfl⟩
  go_wp2_with fail
  refine hK.out _ _ HS (fun hHeld => ?_)
  clear hK K
  try simp only [Act.put, List.setIfInBounds_toArray, List.set_cons_zero, List.set_cons_succ]
  refine wpAnyH_ready (rs := [15]) (by kernel_rfl) (by simp) ?_
  refine AllReadyH.cons rfl (fun K hK => ?_) AllReadyH.nil
  go_simp
  have HT := Lib.hid (Tbl.ofBlk (rows := intRows [z3, z4, z5]) (Blk.new w3 [.int .i64 z3, .int .i64 z4, .int .i64 z5] 3) rfl (by intro r hr; obtain ⟨u, -, rfl⟩ := List.mem_map.1 hr; rfl))
  have HC9 := Lib.hid (HC.out.alloc (.cells #[.int .i64 z3, .int .i64 z4, .int .i64 z5] 3))
  have HS9 := Lib.hid (HS.out.chg ((Chg.refl [] w3).alloc (.cells #[.int .i64 z3, .int .i64 z4, .int .i64 z5] 3)))
  clear HC HS
  have HC := HC9
  have HS := HS9
  clear HC9 HS9
  refine hK.out _ _ HS (fun hHeld => ?_)
  clear hK K
  try simp only [Act.put, List.setIfInBounds_toArray, List.set_cons_zero, List.set_cons_succ]
  refine wpAnyH_ready (rs := [16]) (by kernel_rfl) (by simp) ?_
  refine AllReadyH.cons rfl (fun K hK => ?_) AllReadyH.nil
  go_simp
  refine (or_any (.slice (some ⟨w3.heap.size, 0, none⟩) 3 3) [z3, z4, z5] _ HT (by simp) z HO.out).mono ?_
  rintro e w3 ⟨rfl, rfl⟩
  go_wp2_with fail
  refine hK.out _ _ HS (fun hHeld => ?_)
  clear hK K
  try simp only [Act.put, List.setIfInBounds_toArray, List.set_cons_zero, List.set_cons_succ]
  refine wpAnyH_take (i := 17) (oi := ?oi17) (v := (.int .i64 z)) ?hi17 (by kernel_rfl) (by kernel_rfl) (by kernel_rfl) ?hQ17 ?hy17 hHeld ?rest17
  case hi17 =>
    simp only [List.getElem?_toArray, List.getElem?_cons_succ, List.getElem?_cons_zero]
    rfl
  case hQ17 => exact fun _ _ _ h => h
  case hy17 =>
    refine Or.inl ⟨by rfl, ?_⟩
    intro w hSw
    go_simp
  try simp only [Act.put, List.setIfInBounds_toArray, List.set_cons_zero, List.set_cons_succ]
  refine wpAnyH_done (by kernel_rfl) ?_ _
  go_wp2_with fail
  go_ret
  exact ⟨rfl, HC.out⟩end Go.Proofs.YtjndgkbikhndoaaGreatDoor
