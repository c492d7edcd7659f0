/- Two sets side by side, alike; a step of both. -/
import Derived.Test.YteaepadamhmknaaH9
import Derived.Test.YteaepadamhmknaaHA
namespace Go.Proofs.Yteaepadamhmknaa
open Go.RowKit
set_option linter.unusedVariables false

/-- The program's set (at la, ha) and the reference's (at lb, hb); nothing else has changed since w0. -/
structure Two (w0 : World) (b1 g1 b2 g2 : Nat) (fails base long share la : Int) (ha : List Ho) (lb : Int) (hb : List Ho) (w : World) : Prop where
  a : Hst 64 69 w b1 g1 fails base long share la ha
  b : Hst 73 79 w b2 g2 fails base long share lb hb
  d : b1 ≠ b2 ∧ b1 ≠ g2 ∧ g1 ≠ b2 ∧ g1 ≠ g2
  chg : Chg [b1, g1, b2, g2] w0 w
section
variable {w0 w w' : World} {b1 g1 b2 g2 : Nat} {fails base long share la lb L : Int} {ha hb hs : List Ho}
theorem Two.still (h : Two w0 b1 g1 b2 g2 fails base long share la ha lb hb w) (hc : Chg [] w w') : Two w0 b1 g1 b2 g2 fails base long share la ha lb hb w' :=
  ⟨h.a.frame hc (by simp) (by simp), h.b.frame hc (by simp) (by simp), h.d, h.chg.trans hc (by simp)⟩
theorem Two.stepA (h : Two w0 b1 g1 b2 g2 fails base long share la ha lb hb w) (k : Brought 64 69 b1 g1 fails base long share L hs w w') : Two w0 b1 g1 b2 g2 fails base long share L hs lb hb w' := by
  obtain ⟨d1, d2, d3, d4⟩ := h.d
  exact ⟨k.1, h.b.frame k.2 (by simp; exact ⟨Ne.symm d1, Ne.symm d3⟩) (by simp; exact ⟨Ne.symm d2, Ne.symm d4⟩), h.d, h.chg.trans k.2 (by intro i hi hlt; simp at hi ⊢; omega)⟩
theorem Two.stepB (h : Two w0 b1 g1 b2 g2 fails base long share la ha lb hb w) (k : Brought 73 79 b2 g2 fails base long share L hs w w') : Two w0 b1 g1 b2 g2 fails base long share la ha L hs w' := by
  obtain ⟨d1, d2, d3, d4⟩ := h.d
  exact ⟨h.a.frame k.2 (by simp; exact ⟨d1, d2⟩) (by simp; exact ⟨d3, d4⟩), k.1, h.d, h.chg.trans k.2 (by intro i hi hlt; simp at hi ⊢; omega)⟩
end
/-- The counts of all hosts are at most N. -/
def Fine (N : Int) (hs : List Ho) : Prop := ∀ x ∈ hs, 0 ≤ x.row ∧ x.row ≤ N ∧ 0 ≤ x.times ∧ x.times ≤ N
theorem Fine.mono {N M : Int} {hs : List Ho} (h : Fine N hs) (hm : N ≤ M) : Fine M hs := fun x hx => by
  obtain ⟨h1, h2, h3, h4⟩ := h x hx
  exact ⟨h1, by omega, h3, by omega⟩
theorem Fine.rst {N L : Int} {hs : List Ho} (h : Fine N hs) : Fine N (hs.map (Ho.rst L)) := by
  intro x hx
  obtain ⟨y, hy, rfl⟩ := List.mem_map.1 hx
  obtain ⟨h1, h2, h3, h4⟩ := h y hy
  unfold Ho.rst
  split
  · exact ⟨by simp, by dsimp only; omega, h3, h4⟩
  · exact ⟨h1, h2, h3, h4⟩
theorem Fine.get {N : Int} {hs : List Ho} (h : Fine N hs) {i : Nat} {x : Ho} (hx : hs[i]? = some x) : 0 ≤ x.row ∧ x.row ≤ N ∧ 0 ≤ x.times ∧ x.times ≤ N := h x (List.mem_of_getElem? hx)
theorem Fine.set {N : Int} {hs : List Ho} (h : Fine N hs) (i : Nat) {y : Ho} (hy : 0 ≤ y.row ∧ y.row ≤ N ∧ 0 ≤ y.times ∧ y.times ≤ N) : Fine N (hs.set i y) := by
  intro x hx
  rcases List.mem_or_eq_of_mem_set hx with hx | rfl
  · exact h x hx
  · exact hy
theorem res_fine {fails base long share L N : Int} {hs : List Ho} {x y : Ho} {ok z : Bool} (h : res fails base long share L hs x ok = (y, z)) (hx : 0 ≤ x.row ∧ x.row ≤ N ∧ 0 ≤ x.times ∧ x.times ≤ N) : 0 ≤ y.row ∧ y.row ≤ N + 1 ∧ 0 ≤ y.times ∧ y.times ≤ N + 1 := by
  obtain ⟨h1, h2, h3, h4⟩ := hx
  unfold res at h
  split at h
  · injection h with e1 e2; subst e1; exact ⟨h1, by omega, h3, by omega⟩
  split at h
  · injection h with e1 e2; subst e1; exact ⟨by simp, by dsimp only; omega, h3, by dsimp only; omega⟩
  split at h
  · injection h with e1 e2; subst e1; exact ⟨by dsimp only; omega, by dsimp only; omega, h3, by dsimp only; omega⟩
  · injection h with e1 e2; subst e1; exact ⟨by simp, by dsimp only; omega, by dsimp only; omega, by dsimp only; omega⟩
/-- Where a set is brought to. -/
theorem lift (last now : Int) (h0 : 0 ≤ last) (h1 : last ≤ 4611686018427387904) (n0 : 0 ≤ now) (n1 : now ≤ 4611686018427387904) : ∃ L, ((L = now ∧ last < now) ∨ (L = last ∧ now ≤ last)) ∧ 0 ≤ L ∧ L ≤ 4611686018427387904 := by
  by_cases h : last < now
  · exact ⟨now, .inl ⟨rfl, h⟩, n0, n1⟩
  · exact ⟨last, .inr ⟨rfl, by omega⟩, h0, h1⟩
/-- Both sets after a step. -/
def After (w0 : World) (b1 g1 b2 g2 : Nat) (fails base long share : Int) (len : Nat) (N : Int) (w : World) : Prop :=
  ∃ L hs, Two w0 b1 g1 b2 g2 fails base long share L hs L hs w ∧ 0 ≤ L ∧ L ≤ 4611686018427387904 ∧ Fine N hs ∧ hs.length = len
theorem asks_tell_bad (w0 w : World) (b1 g1 b2 g2 : Nat) (fails base long share last : Int) (hs : List Ho) (N kind now host : Int) (h : Two w0 b1 g1 b2 g2 fails base long share last hs last hs w) (hg : Good hs.length fails base long share) (hl0 : 0 ≤ last) (hl1 : last ≤ 4611686018427387904) (hf : Fine N hs) (hN : N ≤ 6000000000000) (hk : kind = 0 ∨ kind = 1 ∨ kind = 2) (hbad : now < 0 ∨ 4611686018427387904 < now) : Calls Try.prog 23 #[.pointer (some ⟨b1, 0, none⟩), .pointer (some ⟨b2, 0, none⟩), .agg #[.int .i64 kind, .int .i64 now, .int .i64 host]] w fun e w' => e = .returned (.bool true) ∧ Hid (After w0 b1 g1 b2 g2 fails base long share hs.length (N + 1) w') := by
  have HBAD := Lib.hid hbad
  clear hbad
  rcases hk with rfl | rfl | rfl
  all_goals
    go_enter Try.func23, Try.ntmps23
    go_wp2_with (first | (go_at_call 14; (with_reducible refine (result_bad _ now host _ HBAD.out _).mono ?_); rintro e w' ⟨rfl, rfl⟩) | (go_at_call 35; (with_reducible refine (rresult_bad _ now host _ HBAD.out _).mono ?_); rintro e w' ⟨rfl, rfl⟩))
    go_ret
    exact ⟨rfl, last, hs, h.still ((Chg.refl [] w).alloc _), hl0, hl1, hf.mono (by omega), rfl⟩
theorem asks_mark_bad (w0 w : World) (b1 g1 b2 g2 : Nat) (fails base long share last : Int) (hs : List Ho) (N kind now host : Int) (h : Two w0 b1 g1 b2 g2 fails base long share last hs last hs w) (hg : Good hs.length fails base long share) (hl0 : 0 ≤ last) (hl1 : last ≤ 4611686018427387904) (hf : Fine N hs) (hN : N ≤ 6000000000000) (hk : kind = 3 ∨ kind = 4) (hbad : now < 0 ∨ 4611686018427387904 < now) : Calls Try.prog 23 #[.pointer (some ⟨b1, 0, none⟩), .pointer (some ⟨b2, 0, none⟩), .agg #[.int .i64 kind, .int .i64 now, .int .i64 host]] w fun e w' => e = .returned (.bool true) ∧ Hid (After w0 b1 g1 b2 g2 fails base long share hs.length (N + 1) w') := by
  have HBAD := Lib.hid hbad
  clear hbad
  rcases hk with rfl | rfl
  all_goals
    go_enter Try.func23, Try.ntmps23
    go_wp2_with (first | (go_at_call 20; (with_reducible refine (mark_bad _ now host _ HBAD.out _).mono ?_); rintro e w' ⟨rfl, rfl⟩) | (go_at_call 36; (with_reducible refine (rmark_bad _ now host _ HBAD.out _).mono ?_); rintro e w' ⟨rfl, rfl⟩))
    go_ret
    exact ⟨rfl, last, hs, h.still ((Chg.refl [] w).alloc _), hl0, hl1, hf.mono (by omega), rfl⟩
theorem asks_tell_none (w0 w : World) (b1 g1 b2 g2 : Nat) (fails base long share last : Int) (hs : List Ho) (N kind now host : Int) (h : Two w0 b1 g1 b2 g2 fails base long share last hs last hs w) (hg : Good hs.length fails base long share) (hl0 : 0 ≤ last) (hl1 : last ≤ 4611686018427387904) (hf : Fine N hs) (hN : N ≤ 6000000000000) (hk : kind = 0 ∨ kind = 1 ∨ kind = 2) (n0 : 0 ≤ now) (n1 : now ≤ 4611686018427387904) (hh : host < 0 ∨ (hs.length : Int) ≤ host) : Calls Try.prog 23 #[.pointer (some ⟨b1, 0, none⟩), .pointer (some ⟨b2, 0, none⟩), .agg #[.int .i64 kind, .int .i64 now, .int .i64 host]] w fun e w' => e = .returned (.bool true) ∧ Hid (After w0 b1 g1 b2 g2 fails base long share hs.length (N + 1) w') := by
  have HHO := Lib.hid hh
  clear hh
  rcases hk with rfl | rfl | rfl
  · have HT := Lib.hid (h.still ((Chg.refl [] w).alloc (.cells #[.int .i64 0, .int .i64 now, .int .i64 host] 32)))
    go_enter Try.func23, Try.ntmps23
    go_wp2_with (first | (go_at_call 14; (with_reducible refine (result_none b1 g1 fails base long share last now host _ hs _ HT.out.a n0 n1 HHO.out).mono ?_); rintro e w' ⟨rfl, rfl⟩) | (go_at_call 35; (with_reducible refine (rresult_none b2 g2 fails base long share last now host _ hs _ HT.out.b n0 n1 HHO.out).mono ?_); rintro e w' ⟨rfl, rfl⟩))
    go_ret
    exact ⟨rfl, last, hs, HT.out, hl0, hl1, hf.mono (by omega), rfl⟩
  · have HT := Lib.hid (h.still ((Chg.refl [] w).alloc (.cells #[.int .i64 1, .int .i64 now, .int .i64 host] 32)))
    go_enter Try.func23, Try.ntmps23
    go_wp2_with (first | (go_at_call 14; (with_reducible refine (result_none b1 g1 fails base long share last now host _ hs _ HT.out.a n0 n1 HHO.out).mono ?_); rintro e w' ⟨rfl, rfl⟩) | (go_at_call 35; (with_reducible refine (rresult_none b2 g2 fails base long share last now host _ hs _ HT.out.b n0 n1 HHO.out).mono ?_); rintro e w' ⟨rfl, rfl⟩))
    go_ret
    exact ⟨rfl, last, hs, HT.out, hl0, hl1, hf.mono (by omega), rfl⟩
  · have HT := Lib.hid (h.still ((Chg.refl [] w).alloc (.cells #[.int .i64 2, .int .i64 now, .int .i64 host] 32)))
    go_enter Try.func23, Try.ntmps23
    go_wp2_with (first | (go_at_call 14; (with_reducible refine (result_none b1 g1 fails base long share last now host _ hs _ HT.out.a n0 n1 HHO.out).mono ?_); rintro e w' ⟨rfl, rfl⟩) | (go_at_call 35; (with_reducible refine (rresult_none b2 g2 fails base long share last now host _ hs _ HT.out.b n0 n1 HHO.out).mono ?_); rintro e w' ⟨rfl, rfl⟩))
    go_ret
    exact ⟨rfl, last, hs, HT.out, hl0, hl1, hf.mono (by omega), rfl⟩
theorem asks_mark_none (w0 w : World) (b1 g1 b2 g2 : Nat) (fails base long share last : Int) (hs : List Ho) (N kind now host : Int) (h : Two w0 b1 g1 b2 g2 fails base long share last hs last hs w) (hg : Good hs.length fails base long share) (hl0 : 0 ≤ last) (hl1 : last ≤ 4611686018427387904) (hf : Fine N hs) (hN : N ≤ 6000000000000) (hk : kind = 3 ∨ kind = 4) (n0 : 0 ≤ now) (n1 : now ≤ 4611686018427387904) (hh : host < 0 ∨ (hs.length : Int) ≤ host) : Calls Try.prog 23 #[.pointer (some ⟨b1, 0, none⟩), .pointer (some ⟨b2, 0, none⟩), .agg #[.int .i64 kind, .int .i64 now, .int .i64 host]] w fun e w' => e = .returned (.bool true) ∧ Hid (After w0 b1 g1 b2 g2 fails base long share hs.length (N + 1) w') := by
  have HHO := Lib.hid hh
  clear hh
  rcases hk with rfl | rfl
  · have HT := Lib.hid (h.still ((Chg.refl [] w).alloc (.cells #[.int .i64 3, .int .i64 now, .int .i64 host] 32)))
    go_enter Try.func23, Try.ntmps23
    go_wp2_with (first | (go_at_call 20; (with_reducible refine (mark_none b1 g1 fails base long share last now host _ hs _ HT.out.a n0 n1 HHO.out).mono ?_); rintro e w' ⟨rfl, rfl⟩) | (go_at_call 36; (with_reducible refine (rmark_none b2 g2 fails base long share last now host _ hs _ HT.out.b n0 n1 HHO.out).mono ?_); rintro e w' ⟨rfl, rfl⟩))
    go_ret
    exact ⟨rfl, last, hs, HT.out, hl0, hl1, hf.mono (by omega), rfl⟩
  · have HT := Lib.hid (h.still ((Chg.refl [] w).alloc (.cells #[.int .i64 4, .int .i64 now, .int .i64 host] 32)))
    go_enter Try.func23, Try.ntmps23
    go_wp2_with (first | (go_at_call 20; (with_reducible refine (mark_none b1 g1 fails base long share last now host _ hs _ HT.out.a n0 n1 HHO.out).mono ?_); rintro e w' ⟨rfl, rfl⟩) | (go_at_call 36; (with_reducible refine (rmark_none b2 g2 fails base long share last now host _ hs _ HT.out.b n0 n1 HHO.out).mono ?_); rintro e w' ⟨rfl, rfl⟩))
    go_ret
    exact ⟨rfl, last, hs, HT.out, hl0, hl1, hf.mono (by omega), rfl⟩
set_option maxHeartbeats 2000000 in
theorem asks_tell_any (w0 w : World) (b1 g1 b2 g2 : Nat) (fails base long share last : Int) (hs : List Ho) (N kind now host : Int) (h : Two w0 b1 g1 b2 g2 fails base long share last hs last hs w) (hg : Good hs.length fails base long share) (hl0 : 0 ≤ last) (hl1 : last ≤ 4611686018427387904) (hf : Fine N hs) (hN : N ≤ 6000000000000) (hk : kind = 0 ∨ kind = 1 ∨ kind = 2) (n0 : 0 ≤ now) (n1 : now ≤ 4611686018427387904) (hh : ¬ (host < 0 ∨ (hs.length : Int) ≤ host)) : Calls Try.prog 23 #[.pointer (some ⟨b1, 0, none⟩), .pointer (some ⟨b2, 0, none⟩), .agg #[.int .i64 kind, .int .i64 now, .int .i64 host]] w fun e w' => e = .returned (.bool true) ∧ Hid (After w0 b1 g1 b2 g2 fails base long share hs.length (N + 1) w') := by
  obtain ⟨L, hL, l0, l1⟩ := lift last now hl0 hl1 n0 n1
  have HL := Lib.hid hL
  clear hL
  obtain ⟨i, rfl⟩ : ∃ i : Nat, host = i := ⟨host.toNat, by omega⟩
  obtain ⟨x, hx⟩ : ∃ x, (hs.map (Ho.rst L))[i]? = some x := ⟨_, List.getElem?_eq_getElem (by simp; omega)⟩
  have HX := Lib.hid hx
  obtain ⟨r0, r1, t0, t1⟩ := hf.rst.get hx
  clear hx
  rcases hk with rfl | rfl | rfl
  ·
    obtain ⟨y, z, hy⟩ : ∃ y z, res fails base long share L (hs.map (Ho.rst L)) x true = (y, z) := ⟨_, _, rfl⟩
    have HY := Lib.hid hy
    clear hy
    have HT := Lib.hid (h.still ((Chg.refl [] w).alloc (.cells #[.int .i64 0, .int .i64 now, .int .i64 (i : Int)] 32)))
    have HB := Lib.hid (Blk.new w [.int .i64 0, .int .i64 now, .int .i64 (i : Int)] 32)
    have NE := Lib.hid (show w.heap.size ∉ [b1, g1] ∧ w.heap.size ∉ [b2, g2] by
      have x1 := h.a.num.lt
      have x2 := Blk.lt h.a.recs
      have x3 := h.b.num.lt
      have x4 := Blk.lt h.b.recs
      simp
      omega)
    clear h
    have HF := Lib.hid hf
    have HG := Lib.hid hg
    have hl16 : hs.length ≤ 16 := by
      have := hg.2.1
      omega
    clear hf hg
    go_enter Try.func23, Try.ntmps23
    go_wp2_with fail
    (refine (result_any b1 g1 fails base long share last now L _ hs _ rfl _ HT.out.a HG.out n0 n1 HL.out l0 l1 i x y z HX.out r0 (by omega) t0 (by omega) HY.out).mono ?_)
    rintro e w3 ⟨rfl, HQ⟩
    replace HT := Lib.hid (HT.out.stepA HQ.out)
    replace HB := Lib.hid (HB.out.chg HQ.out.2 NE.out.1)
    clear HQ
    have c0 := HB.out.cell 0 _ rfl
    have c1 := HB.out.cell 1 _ rfl
    have c2 := HB.out.cell 2 _ rfl
    go_wp2_with fail
    (refine (rresult_any b2 g2 fails base long share last now L _ hs _ rfl _ HT.out.b HG.out n0 n1 HL.out l0 l1 i x y z HX.out r0 (by omega) t0 (by omega) HY.out).mono ?_)
    rintro e w3 ⟨rfl, HQ⟩
    replace HT := Lib.hid (HT.out.stepB HQ.out)
    go_wp2_with fail
    go_ret
    exact ⟨by simp, L, _, HT.out, l0, l1, (HF.out.mono (by omega)).rst.set i (res_fine HY.out (HF.out.rst.get HX.out)), by simp⟩
  ·
    obtain ⟨y, z, hy⟩ : ∃ y z, res fails base long share L (hs.map (Ho.rst L)) x false = (y, z) := ⟨_, _, rfl⟩
    have HY := Lib.hid hy
    clear hy
    have HT := Lib.hid (h.still ((Chg.refl [] w).alloc (.cells #[.int .i64 1, .int .i64 now, .int .i64 (i : Int)] 32)))
    have HB := Lib.hid (Blk.new w [.int .i64 1, .int .i64 now, .int .i64 (i : Int)] 32)
    have NE := Lib.hid (show w.heap.size ∉ [b1, g1] ∧ w.heap.size ∉ [b2, g2] by
      have x1 := h.a.num.lt
      have x2 := Blk.lt h.a.recs
      have x3 := h.b.num.lt
      have x4 := Blk.lt h.b.recs
      simp
      omega)
    clear h
    have HF := Lib.hid hf
    have HG := Lib.hid hg
    have hl16 : hs.length ≤ 16 := by
      have := hg.2.1
      omega
    clear hf hg
    go_enter Try.func23, Try.ntmps23
    go_wp2_with fail
    (refine (result_any b1 g1 fails base long share last now L _ hs _ rfl _ HT.out.a HG.out n0 n1 HL.out l0 l1 i x y z HX.out r0 (by omega) t0 (by omega) HY.out).mono ?_)
    rintro e w3 ⟨rfl, HQ⟩
    replace HT := Lib.hid (HT.out.stepA HQ.out)
    replace HB := Lib.hid (HB.out.chg HQ.out.2 NE.out.1)
    clear HQ
    have c0 := HB.out.cell 0 _ rfl
    have c1 := HB.out.cell 1 _ rfl
    have c2 := HB.out.cell 2 _ rfl
    go_wp2_with fail
    (refine (rresult_any b2 g2 fails base long share last now L _ hs _ rfl _ HT.out.b HG.out n0 n1 HL.out l0 l1 i x y z HX.out r0 (by omega) t0 (by omega) HY.out).mono ?_)
    rintro e w3 ⟨rfl, HQ⟩
    replace HT := Lib.hid (HT.out.stepB HQ.out)
    go_wp2_with fail
    go_ret
    exact ⟨by simp, L, _, HT.out, l0, l1, (HF.out.mono (by omega)).rst.set i (res_fine HY.out (HF.out.rst.get HX.out)), by simp⟩
  ·
    obtain ⟨y, z, hy⟩ : ∃ y z, res fails base long share L (hs.map (Ho.rst L)) x false = (y, z) := ⟨_, _, rfl⟩
    have HY := Lib.hid hy
    clear hy
    have HT := Lib.hid (h.still ((Chg.refl [] w).alloc (.cells #[.int .i64 2, .int .i64 now, .int .i64 (i : Int)] 32)))
    have HB := Lib.hid (Blk.new w [.int .i64 2, .int .i64 now, .int .i64 (i : Int)] 32)
    have NE := Lib.hid (show w.heap.size ∉ [b1, g1] ∧ w.heap.size ∉ [b2, g2] by
      have x1 := h.a.num.lt
      have x2 := Blk.lt h.a.recs
      have x3 := h.b.num.lt
      have x4 := Blk.lt h.b.recs
      simp
      omega)
    clear h
    have HF := Lib.hid hf
    have HG := Lib.hid hg
    have hl16 : hs.length ≤ 16 := by
      have := hg.2.1
      omega
    clear hf hg
    go_enter Try.func23, Try.ntmps23
    go_wp2_with fail
    (refine (result_any b1 g1 fails base long share last now L _ hs _ rfl _ HT.out.a HG.out n0 n1 HL.out l0 l1 i x y z HX.out r0 (by omega) t0 (by omega) HY.out).mono ?_)
    rintro e w3 ⟨rfl, HQ⟩
    replace HT := Lib.hid (HT.out.stepA HQ.out)
    replace HB := Lib.hid (HB.out.chg HQ.out.2 NE.out.1)
    clear HQ
    have c0 := HB.out.cell 0 _ rfl
    have c1 := HB.out.cell 1 _ rfl
    have c2 := HB.out.cell 2 _ rfl
    go_wp2_with fail
    (refine (rresult_any b2 g2 fails base long share last now L _ hs _ rfl _ HT.out.b HG.out n0 n1 HL.out l0 l1 i x y z HX.out r0 (by omega) t0 (by omega) HY.out).mono ?_)
    rintro e w3 ⟨rfl, HQ⟩
    replace HT := Lib.hid (HT.out.stepB HQ.out)
    go_wp2_with fail
    go_ret
    exact ⟨by simp, L, _, HT.out, l0, l1, (HF.out.mono (by omega)).rst.set i (res_fine HY.out (HF.out.rst.get HX.out)), by simp⟩
set_option maxHeartbeats 2000000 in
theorem asks_mark_any (w0 w : World) (b1 g1 b2 g2 : Nat) (fails base long share last : Int) (hs : List Ho) (N kind now host : Int) (h : Two w0 b1 g1 b2 g2 fails base long share last hs last hs w) (hg : Good hs.length fails base long share) (hl0 : 0 ≤ last) (hl1 : last ≤ 4611686018427387904) (hf : Fine N hs) (hN : N ≤ 6000000000000) (hk : kind = 3 ∨ kind = 4) (n0 : 0 ≤ now) (n1 : now ≤ 4611686018427387904) (hh : ¬ (host < 0 ∨ (hs.length : Int) ≤ host)) : Calls Try.prog 23 #[.pointer (some ⟨b1, 0, none⟩), .pointer (some ⟨b2, 0, none⟩), .agg #[.int .i64 kind, .int .i64 now, .int .i64 host]] w fun e w' => e = .returned (.bool true) ∧ Hid (After w0 b1 g1 b2 g2 fails base long share hs.length (N + 1) w') := by
  obtain ⟨L, hL, l0, l1⟩ := lift last now hl0 hl1 n0 n1
  have HL := Lib.hid hL
  clear hL
  obtain ⟨i, rfl⟩ : ∃ i : Nat, host = i := ⟨host.toNat, by omega⟩
  obtain ⟨x, hx⟩ : ∃ x, (hs.map (Ho.rst L))[i]? = some x := ⟨_, List.getElem?_eq_getElem (by simp; omega)⟩
  have HX := Lib.hid hx
  obtain ⟨r0, r1, t0, t1⟩ := hf.rst.get hx
  clear hx
  rcases hk with rfl | rfl
  ·
    have HT := Lib.hid (h.still ((Chg.refl [] w).alloc (.cells #[.int .i64 3, .int .i64 now, .int .i64 (i : Int)] 32)))
    have HB := Lib.hid (Blk.new w [.int .i64 3, .int .i64 now, .int .i64 (i : Int)] 32)
    have NE := Lib.hid (show w.heap.size ∉ [b1, g1] ∧ w.heap.size ∉ [b2, g2] by
      have x1 := h.a.num.lt
      have x2 := Blk.lt h.a.recs
      have x3 := h.b.num.lt
      have x4 := Blk.lt h.b.recs
      simp
      omega)
    clear h
    have HF := Lib.hid hf
    have HG := Lib.hid hg
    have hl16 : hs.length ≤ 16 := by
      have := hg.2.1
      omega
    clear hf hg
    go_enter Try.func23, Try.ntmps23
    go_wp2_with fail
    (refine (mark_any b1 g1 fails base long share last now L true hs _ HT.out.a hl16 n0 n1 HL.out i x HX.out).mono ?_)
    rintro e w3 ⟨rfl, HQ⟩
    replace HT := Lib.hid (HT.out.stepA HQ.out)
    replace HB := Lib.hid (HB.out.chg HQ.out.2 NE.out.1)
    clear HQ
    have c0 := HB.out.cell 0 _ rfl
    have c1 := HB.out.cell 1 _ rfl
    have c2 := HB.out.cell 2 _ rfl
    go_wp2_with fail
    (refine (rmark_any b2 g2 fails base long share last now L true hs _ HT.out.b hl16 n0 n1 HL.out i x HX.out).mono ?_)
    rintro e w3 ⟨rfl, HQ⟩
    replace HT := Lib.hid (HT.out.stepB HQ.out)
    go_wp2_with fail
    go_ret
    exact ⟨by simp, L, _, HT.out, l0, l1, (HF.out.mono (by omega)).rst.set i ⟨r0, by dsimp only [Ho.mark]; omega, t0, by dsimp only [Ho.mark]; omega⟩, by simp⟩
  ·
    have HT := Lib.hid (h.still ((Chg.refl [] w).alloc (.cells #[.int .i64 4, .int .i64 now, .int .i64 (i : Int)] 32)))
    have HB := Lib.hid (Blk.new w [.int .i64 4, .int .i64 now, .int .i64 (i : Int)] 32)
    have NE := Lib.hid (show w.heap.size ∉ [b1, g1] ∧ w.heap.size ∉ [b2, g2] by
      have x1 := h.a.num.lt
      have x2 := Blk.lt h.a.recs
      have x3 := h.b.num.lt
      have x4 := Blk.lt h.b.recs
      simp
      omega)
    clear h
    have HF := Lib.hid hf
    have HG := Lib.hid hg
    have hl16 : hs.length ≤ 16 := by
      have := hg.2.1
      omega
    clear hf hg
    go_enter Try.func23, Try.ntmps23
    go_wp2_with fail
    (refine (mark_any b1 g1 fails base long share last now L false hs _ HT.out.a hl16 n0 n1 HL.out i x HX.out).mono ?_)
    rintro e w3 ⟨rfl, HQ⟩
    replace HT := Lib.hid (HT.out.stepA HQ.out)
    replace HB := Lib.hid (HB.out.chg HQ.out.2 NE.out.1)
    clear HQ
    have c0 := HB.out.cell 0 _ rfl
    have c1 := HB.out.cell 1 _ rfl
    have c2 := HB.out.cell 2 _ rfl
    go_wp2_with fail
    (refine (rmark_any b2 g2 fails base long share last now L false hs _ HT.out.b hl16 n0 n1 HL.out i x HX.out).mono ?_)
    rintro e w3 ⟨rfl, HQ⟩
    replace HT := Lib.hid (HT.out.stepB HQ.out)
    go_wp2_with fail
    go_ret
    exact ⟨by simp, L, _, HT.out, l0, l1, (HF.out.mono (by omega)).rst.set i ⟨r0, by dsimp only [Ho.mark]; omega, t0, by dsimp only [Ho.mark]; omega⟩, by simp⟩
end Go.Proofs.Yteaepadamhmknaa
