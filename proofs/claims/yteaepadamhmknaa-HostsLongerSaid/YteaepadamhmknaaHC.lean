/- A step of both sets: Bring and Usable; any step. -/
import Derived.Test.YteaepadamhmknaaHB
namespace Go.Proofs.Yteaepadamhmknaa
open Go.RowKit
set_option linter.unusedVariables false

theorem asks_bring_bad (w0 w : World) (b1 g1 b2 g2 : Nat) (fails base long share last : Int) (hs : List Ho) (N kind now host : Int) (h : Two w0 b1 g1 b2 g2 fails base long share last hs last hs w) (hg : Good hs.length fails base long share) (hl0 : 0 ≤ last) (hl1 : last ≤ 4611686018427387904) (hf : Fine N hs) (hN : N ≤ 6000000000000) (hk : kind = 5) (hbad : now < 0 ∨ 4611686018427387904 < now) : Calls Try.prog 23 #[.pointer (some ⟨b1, 0, none⟩), .pointer (some ⟨b2, 0, none⟩), .agg #[.int .i64 kind, .int .i64 now, .int .i64 host]] w fun e w' => e = .returned (.bool true) ∧ Hid (After w0 b1 g1 b2 g2 fails base long share hs.length (N + 1) w') := by
  have HBAD := Lib.hid hbad
  clear hbad
  subst hk
  go_enter Try.func23, Try.ntmps23
  go_wp2_with (first | (go_at_call 18; (with_reducible refine (bring_bad _ now HBAD.out _).mono ?_); rintro e w' ⟨rfl, rfl⟩) | (go_at_call 37; (with_reducible refine (rbring_bad _ now HBAD.out _).mono ?_); rintro e w' ⟨rfl, rfl⟩))
  have he (w : World) : Ints w .i64 none 0 [] := ⟨rfl, fun h => absurd h (by omega)⟩
  (refine (ints_same none none 0 0 0 [] _ (he _) (he _) (by omega)).mono ?_)
  rintro e w3 ⟨rfl, HQ⟩
  go_wp2_with fail
  go_ret
  exact ⟨rfl, last, hs, (h.still ((Chg.refl [] w).alloc _)).still HQ.out, hl0, hl1, hf.mono (by omega), rfl⟩
set_option maxHeartbeats 2000000 in
theorem asks_bring_any (w0 w : World) (b1 g1 b2 g2 : Nat) (fails base long share last : Int) (hs : List Ho) (N kind now host : Int) (h : Two w0 b1 g1 b2 g2 fails base long share last hs last hs w) (hg : Good hs.length fails base long share) (hl0 : 0 ≤ last) (hl1 : last ≤ 4611686018427387904) (hf : Fine N hs) (hN : N ≤ 6000000000000) (hk : kind = 5) (n0 : 0 ≤ now) (n1 : now ≤ 4611686018427387904) : Calls Try.prog 23 #[.pointer (some ⟨b1, 0, none⟩), .pointer (some ⟨b2, 0, none⟩), .agg #[.int .i64 kind, .int .i64 now, .int .i64 host]] w fun e w' => e = .returned (.bool true) ∧ Hid (After w0 b1 g1 b2 g2 fails base long share hs.length (N + 1) w') := by
  obtain ⟨L, hL, l0, l1⟩ := lift last now hl0 hl1 n0 n1
  have HL := Lib.hid hL
  clear hL
  subst hk
  have HT := Lib.hid (h.still ((Chg.refl [] w).alloc (.cells #[.int .i64 5, .int .i64 now, .int .i64 host] 32)))
  have HB := Lib.hid (Blk.new w [.int .i64 5, .int .i64 now, .int .i64 host] 32)
  have NE := Lib.hid (show w.heap.size ∉ [b1, g1] ∧ w.heap.size ∉ [b2, g2] by
    have x1 := h.a.num.lt
    have x2 := Blk.lt h.a.recs
    have x3 := h.b.num.lt
    have x4 := Blk.lt h.b.recs
    simp
    omega)
  clear h
  have HF := Lib.hid hf
  have HG := Lib.hid hg
  have hl16 : hs.length ≤ 16 := by
    have := hg.2.1
    omega
  clear hf hg
  go_enter Try.func23, Try.ntmps23
  go_wp2_with fail
  (refine (bring_any b1 g1 fails base long share last now L hs _ HT.out.a hl16 n0 n1 HL.out).mono ?_)
  rintro e w3 ⟨v1, rfl, ho1, hf1, hst, hch⟩
  have HQ := Lib.hid (show Brought 64 69 b1 g1 fails base long share L (hs.map (Ho.rst L)) _ w3 from ⟨hst, hch⟩)
  have hsz := Nat.le_refl (w.alloc (.cells #[.int .i64 5, .int .i64 now, .int .i64 host] 32)).heap.size
  obtain ⟨A, ca, rfl, hi1, hib⟩ := ho1.ints
  have HI1 := Lib.hid (show Ints w3 .i64 A _ _ ∧ ∀ x, A = some x → x.block ∉ [b2, g2] from ⟨hi1, fun x hx => by
    have q1 := hf1 _ (hib x hx)
    have q2 := HT.out.b.num.lt
    have q3 := Blk.lt HT.out.b.recs
    simp only [List.mem_cons, List.not_mem_nil, or_false]
    omega⟩)
  have hlz : (dueI L hs 0).length ≤ 16 := by
    have := dueI_len L hs 0
    try simp at this
    omega
  clear ho1 hf1 hst hch hi1 hib hsz
  replace HT := Lib.hid (HT.out.stepA HQ.out)
  replace HB := Lib.hid (HB.out.chg HQ.out.2 NE.out.1)
  clear HQ
  have c0 := HB.out.cell 0 _ rfl
  have c1 := HB.out.cell 1 _ rfl
  have c2 := HB.out.cell 2 _ rfl
  go_wp2_with fail
  (refine (rbring_any b2 g2 fails base long share last now L hs _ HT.out.b hl16 n0 n1 HL.out).mono ?_)
  rintro e w4 ⟨v2, rfl, ho2, hf2, hst, hch⟩
  have HQ := Lib.hid (show Brought 73 79 b2 g2 fails base long share L (hs.map (Ho.rst L)) _ w4 from ⟨hst, hch⟩)
  obtain ⟨B, cb, rfl, hi2, -⟩ := ho2.ints
  have HI2 := Lib.hid hi2
  have HI1 := Lib.hid (HI1.out.1.chg hch HI1.out.2)
  clear ho2 hf2 hst hch hi2
  replace HT := Lib.hid (HT.out.stepB HQ.out)
  go_wp2_with fail
  (refine (ints_same A B _ ca cb (dueI L hs 0) _ HI1.out HI2.out hlz).mono ?_)
  rintro e w3 ⟨rfl, HQ⟩
  go_wp2_with fail
  go_ret
  exact ⟨by simp, L, _, HT.out.still HQ.out, l0, l1, (HF.out.mono (by omega)).rst, by simp⟩
theorem asks_use_bad (w0 w : World) (b1 g1 b2 g2 : Nat) (fails base long share last : Int) (hs : List Ho) (N kind now host : Int) (h : Two w0 b1 g1 b2 g2 fails base long share last hs last hs w) (hg : Good hs.length fails base long share) (hl0 : 0 ≤ last) (hl1 : last ≤ 4611686018427387904) (hf : Fine N hs) (hN : N ≤ 6000000000000) (hk : ¬ (kind = 0 ∨ kind = 1 ∨ kind = 2 ∨ kind = 3 ∨ kind = 4 ∨ kind = 5)) (hbad : now < 0 ∨ 4611686018427387904 < now) : Calls Try.prog 23 #[.pointer (some ⟨b1, 0, none⟩), .pointer (some ⟨b2, 0, none⟩), .agg #[.int .i64 kind, .int .i64 now, .int .i64 host]] w fun e w' => e = .returned (.bool true) ∧ Hid (After w0 b1 g1 b2 g2 fails base long share hs.length (N + 1) w') := by
  have HBAD := Lib.hid hbad
  clear hbad
  have k0 : (kind == 0) = false := beq_eq_false_iff_ne.2 (by omega)
  have k1 : (kind == 1) = false := beq_eq_false_iff_ne.2 (by omega)
  have k2 : (kind == 2) = false := beq_eq_false_iff_ne.2 (by omega)
  have k3 : (kind == 3) = false := beq_eq_false_iff_ne.2 (by omega)
  have k4 : (kind == 4) = false := beq_eq_false_iff_ne.2 (by omega)
  have k5 : (kind == 5) = false := beq_eq_false_iff_ne.2 (by omega)
  clear hk
  go_enter Try.func23, Try.ntmps23
  go_wp2_with (first | (go_at_call 16; (with_reducible refine (usable_bad _ now HBAD.out _).mono ?_); rintro e w' ⟨rfl, rfl⟩) | (go_at_call 38; (with_reducible refine (rusable_bad _ now HBAD.out _).mono ?_); rintro e w' ⟨rfl, rfl⟩))
  have he (w : World) : Ints w .i64 none 0 [] := ⟨rfl, fun h => absurd h (by omega)⟩
  (refine (ints_same none none 0 0 0 [] _ (he _) (he _) (by omega)).mono ?_)
  rintro e w3 ⟨rfl, HQ⟩
  go_wp2_with fail
  go_ret
  exact ⟨rfl, last, hs, (h.still ((Chg.refl [] w).alloc _)).still HQ.out, hl0, hl1, hf.mono (by omega), rfl⟩
set_option maxHeartbeats 2000000 in
theorem asks_use_any (w0 w : World) (b1 g1 b2 g2 : Nat) (fails base long share last : Int) (hs : List Ho) (N kind now host : Int) (h : Two w0 b1 g1 b2 g2 fails base long share last hs last hs w) (hg : Good hs.length fails base long share) (hl0 : 0 ≤ last) (hl1 : last ≤ 4611686018427387904) (hf : Fine N hs) (hN : N ≤ 6000000000000) (hk : ¬ (kind = 0 ∨ kind = 1 ∨ kind = 2 ∨ kind = 3 ∨ kind = 4 ∨ kind = 5)) (n0 : 0 ≤ now) (n1 : now ≤ 4611686018427387904) : Calls Try.prog 23 #[.pointer (some ⟨b1, 0, none⟩), .pointer (some ⟨b2, 0, none⟩), .agg #[.int .i64 kind, .int .i64 now, .int .i64 host]] w fun e w' => e = .returned (.bool true) ∧ Hid (After w0 b1 g1 b2 g2 fails base long share hs.length (N + 1) w') := by
  obtain ⟨L, hL, l0, l1⟩ := lift last now hl0 hl1 n0 n1
  have HL := Lib.hid hL
  clear hL
  have k0 : (kind == 0) = false := beq_eq_false_iff_ne.2 (by omega)
  have k1 : (kind == 1) = false := beq_eq_false_iff_ne.2 (by omega)
  have k2 : (kind == 2) = false := beq_eq_false_iff_ne.2 (by omega)
  have k3 : (kind == 3) = false := beq_eq_false_iff_ne.2 (by omega)
  have k4 : (kind == 4) = false := beq_eq_false_iff_ne.2 (by omega)
  have k5 : (kind == 5) = false := beq_eq_false_iff_ne.2 (by omega)
  clear hk
  have HT := Lib.hid (h.still ((Chg.refl [] w).alloc (.cells #[.int .i64 kind, .int .i64 now, .int .i64 host] 32)))
  have HB := Lib.hid (Blk.new w [.int .i64 kind, .int .i64 now, .int .i64 host] 32)
  have NE := Lib.hid (show w.heap.size ∉ [b1, g1] ∧ w.heap.size ∉ [b2, g2] by
    have x1 := h.a.num.lt
    have x2 := Blk.lt h.a.recs
    have x3 := h.b.num.lt
    have x4 := Blk.lt h.b.recs
    simp
    omega)
  clear h
  have HF := Lib.hid hf
  have HG := Lib.hid hg
  have hl16 : hs.length ≤ 16 := by
    have := hg.2.1
    omega
  clear hf hg
  go_enter Try.func23, Try.ntmps23
  go_wp2_with fail
  (refine (usable_any b1 g1 fails base long share last now L hs _ HT.out.a hl16 n0 n1 HL.out).mono ?_)
  rintro e w3 ⟨v1, rfl, ho1, hf1, hst, hch⟩
  have HQ := Lib.hid (show Brought 64 69 b1 g1 fails base long share L (hs.map (Ho.rst L)) _ w3 from ⟨hst, hch⟩)
  have hsz := Nat.le_refl (w.alloc (.cells #[.int .i64 kind, .int .i64 now, .int .i64 host] 32)).heap.size
  obtain ⟨A, ca, rfl, hi1, hib⟩ := ho1.ints
  have HI1 := Lib.hid (show Ints w3 .i64 A _ _ ∧ ∀ x, A = some x → x.block ∉ [b2, g2] from ⟨hi1, fun x hx => by
    have q1 := hf1 _ (hib x hx)
    have q2 := HT.out.b.num.lt
    have q3 := Blk.lt HT.out.b.recs
    simp only [List.mem_cons, List.not_mem_nil, or_false]
    omega⟩)
  have hlz : (useI (hs.map (Ho.rst L)) 0).length ≤ 16 := by
    have := useI_len (hs.map (Ho.rst L)) 0
    try simp at this
    omega
  clear ho1 hf1 hst hch hi1 hib hsz
  replace HT := Lib.hid (HT.out.stepA HQ.out)
  replace HB := Lib.hid (HB.out.chg HQ.out.2 NE.out.1)
  clear HQ
  have c0 := HB.out.cell 0 _ rfl
  have c1 := HB.out.cell 1 _ rfl
  have c2 := HB.out.cell 2 _ rfl
  go_wp2_with fail
  (refine (rusable_any b2 g2 fails base long share last now L hs _ HT.out.b hl16 n0 n1 HL.out).mono ?_)
  rintro e w4 ⟨v2, rfl, ho2, hf2, hst, hch⟩
  have HQ := Lib.hid (show Brought 73 79 b2 g2 fails base long share L (hs.map (Ho.rst L)) _ w4 from ⟨hst, hch⟩)
  obtain ⟨B, cb, rfl, hi2, -⟩ := ho2.ints
  have HI2 := Lib.hid hi2
  have HI1 := Lib.hid (HI1.out.1.chg hch HI1.out.2)
  clear ho2 hf2 hst hch hi2
  replace HT := Lib.hid (HT.out.stepB HQ.out)
  go_wp2_with fail
  (refine (ints_same A B _ ca cb (useI (hs.map (Ho.rst L)) 0) _ HI1.out HI2.out hlz).mono ?_)
  rintro e w3 ⟨rfl, HQ⟩
  go_wp2_with fail
  go_ret
  exact ⟨by simp, L, _, HT.out.still HQ.out, l0, l1, (HF.out.mono (by omega)).rst, by simp⟩
theorem asks_any (w0 w : World) (b1 g1 b2 g2 : Nat) (fails base long share last : Int) (hs : List Ho) (N kind now host : Int) (h : Two w0 b1 g1 b2 g2 fails base long share last hs last hs w) (hg : Good hs.length fails base long share) (hl0 : 0 ≤ last) (hl1 : last ≤ 4611686018427387904) (hf : Fine N hs) (hN : N ≤ 6000000000000) : Calls Try.prog 23 #[.pointer (some ⟨b1, 0, none⟩), .pointer (some ⟨b2, 0, none⟩), .agg #[.int .i64 kind, .int .i64 now, .int .i64 host]] w fun e w' => e = .returned (.bool true) ∧ Hid (After w0 b1 g1 b2 g2 fails base long share hs.length (N + 1) w') := by
  by_cases hbad : now < 0 ∨ 4611686018427387904 < now
  · by_cases k1 : kind = 0 ∨ kind = 1 ∨ kind = 2
    · exact asks_tell_bad w0 w b1 g1 b2 g2 fails base long share last hs N kind now host h hg hl0 hl1 hf hN k1 hbad
    by_cases k2 : kind = 3 ∨ kind = 4
    · exact asks_mark_bad w0 w b1 g1 b2 g2 fails base long share last hs N kind now host h hg hl0 hl1 hf hN k2 hbad
    by_cases k3 : kind = 5
    · exact asks_bring_bad w0 w b1 g1 b2 g2 fails base long share last hs N kind now host h hg hl0 hl1 hf hN k3 hbad
    exact asks_use_bad w0 w b1 g1 b2 g2 fails base long share last hs N kind now host h hg hl0 hl1 hf hN (by omega) hbad
  have n0 : 0 ≤ now := by omega
  have n1 : now ≤ 4611686018427387904 := by omega
  by_cases k3 : kind = 5
  · exact asks_bring_any w0 w b1 g1 b2 g2 fails base long share last hs N kind now host h hg hl0 hl1 hf hN k3 n0 n1
  by_cases hh : host < 0 ∨ (hs.length : Int) ≤ host
  · by_cases k1 : kind = 0 ∨ kind = 1 ∨ kind = 2
    · exact asks_tell_none w0 w b1 g1 b2 g2 fails base long share last hs N kind now host h hg hl0 hl1 hf hN k1 n0 n1 hh
    by_cases k2 : kind = 3 ∨ kind = 4
    · exact asks_mark_none w0 w b1 g1 b2 g2 fails base long share last hs N kind now host h hg hl0 hl1 hf hN k2 n0 n1 hh
    exact asks_use_any w0 w b1 g1 b2 g2 fails base long share last hs N kind now host h hg hl0 hl1 hf hN (by omega) n0 n1
  · by_cases k1 : kind = 0 ∨ kind = 1 ∨ kind = 2
    · exact asks_tell_any w0 w b1 g1 b2 g2 fails base long share last hs N kind now host h hg hl0 hl1 hf hN k1 n0 n1 hh
    by_cases k2 : kind = 3 ∨ kind = 4
    · exact asks_mark_any w0 w b1 g1 b2 g2 fails base long share last hs N kind now host h hg hl0 hl1 hf hN k2 n0 n1 hh
    exact asks_use_any w0 w b1 g1 b2 g2 fails base long share last hs N kind now host h hg hl0 hl1 hf hN (by omega) n0 n1
end Go.Proofs.Yteaepadamhmknaa
