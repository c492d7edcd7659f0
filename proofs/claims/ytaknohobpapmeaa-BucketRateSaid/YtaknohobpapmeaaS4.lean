/- The reference's bucket: how many tokens, the taking of one, when the next one is; and how both are made. -/
import Derived.Test.YtaknohobpapmeaaS3
namespace Go.Proofs.Ytaknohobpapmeaa
open Go.RowKit
set_option linter.unusedVariables false

set_option maxHeartbeats 1000000 in
theorem rtok_any (b : Nat) (r p u f l a now L A : Int) (w : World) (h : Blk w b [.int .i64 r, .int .i64 p, .int .i64 u, .int .i64 l, .int .i64 a] 56) (N : RNum r p u f l a) (n0 : 0 ≤ now) (n1 : now ≤ 4611686018427387904) (hL : brL r f l a now = L) (hA : brA a now = A) :
    Calls Try.prog 13 #[.pointer (some ⟨b, 0, none⟩), .int .i64 now] w fun e w' => e = .returned (.tuple #[.int .i64 (L / p), .int .i64 0]) ∧ Hid (Blk w' b [.int .i64 r, .int .i64 p, .int .i64 u, .int .i64 L, .int .i64 A] 56 ∧ Chg [b] w w') := by
  have K := Lib.hid (rbring_any b r p u f l a now w h N n0 n1)
  have N2 := (N.bring n1).num
  rw [hL, hA] at N2 K
  clear h hL hA N
  obtain ⟨h1, h2, h3, h4, h5, h6, h7, h8, h9, ha⟩ := N2
  go_enter Try.func13, Try.ntmps13
  go_wp2_with (first | (go_at_call 18; (with_reducible refine (rmoment_yes now n0 n1 _).mono ?_); rintro e w' ⟨rfl, rfl⟩))
  refine K.out.mono ?_
  rintro e w2 ⟨rfl, H⟩
  have c1 := H.out.1.cell 1 _ rfl
  have c3 := H.out.1.cell 3 _ rfl
  clear K
  go_wp2_with fail
  have hp : (p == 0) = false := beq_eq_false_iff_ne.2 (by omega)
  have hq0 : 0 ≤ L / p := Int.ediv_nonneg h7 (by omega)
  go_quiet (fail)
  go_wp2
  go_ret2
  exact ⟨rfl, H.out.1.drewN nq, H.out.2.drewN nq⟩
theorem rtok_bad (q : Option Addr) (now : Int) (h : now < 0 ∨ 4611686018427387904 < now) (w : World) : Calls Try.prog 13 #[.pointer q, .int .i64 now] w fun e w' => e = .returned (.tuple #[.int .i64 0, .int .i64 1]) ∧ w = w' := by
  go_enter Try.func13, Try.ntmps13
  go_wp2_with (first | (go_at_call 18; (with_reducible refine (rmoment_no now h _).mono ?_); rintro e w' ⟨rfl, rfl⟩))
  go_ret2
  exact ⟨rfl, rfl⟩
theorem rtake_bad (q : Option Addr) (now : Int) (h : now < 0 ∨ 4611686018427387904 < now) (w : World) : Calls Try.prog 15 #[.pointer q, .int .i64 now] w fun e w' => e = .returned (.tuple #[.bool false, .int .i64 1]) ∧ w = w' := by
  go_enter Try.func15, Try.ntmps15
  go_wp2_with (first | (go_at_call 18; (with_reducible refine (rmoment_no now h _).mono ?_); rintro e w' ⟨rfl, rfl⟩))
  go_ret2
  exact ⟨rfl, rfl⟩
set_option maxHeartbeats 1000000 in
theorem rtake_no (b : Nat) (r p u f l a now L A : Int) (w : World) (h : Blk w b [.int .i64 r, .int .i64 p, .int .i64 u, .int .i64 l, .int .i64 a] 56) (N : RNum r p u f l a) (n0 : 0 ≤ now) (n1 : now ≤ 4611686018427387904) (hL : brL r f l a now = L) (hA : brA a now = A) (hlt : L < p) :
    Calls Try.prog 15 #[.pointer (some ⟨b, 0, none⟩), .int .i64 now] w fun e w' => e = .returned (.tuple #[.bool false, .int .i64 0]) ∧ Hid (Blk w' b [.int .i64 r, .int .i64 p, .int .i64 u, .int .i64 L, .int .i64 A] 56 ∧ Chg [b] w w') := by
  have K := Lib.hid (rbring_any b r p u f l a now w h N n0 n1)
  rw [hL, hA] at K
  clear h N hL hA
  go_enter Try.func15, Try.ntmps15
  go_wp2_with (first | (go_at_call 18; (with_reducible refine (rmoment_yes now n0 n1 _).mono ?_); rintro e w' ⟨rfl, rfl⟩))
  refine K.out.mono ?_
  rintro e w2 ⟨rfl, H⟩
  have c1 := H.out.1.cell 1 _ rfl
  have c3 := H.out.1.cell 3 _ rfl
  clear K
  go_wp2_with fail
  go_quiet (fail)
  go_wp2
  go_ret2
  exact ⟨rfl, H.out.1.drewN nq, H.out.2.drewN nq⟩
set_option maxHeartbeats 1000000 in
theorem rtake_yes (b : Nat) (r p u f l a now L A : Int) (w : World) (h : Blk w b [.int .i64 r, .int .i64 p, .int .i64 u, .int .i64 l, .int .i64 a] 56) (N : RNum r p u f l a) (n0 : 0 ≤ now) (n1 : now ≤ 4611686018427387904) (hL : brL r f l a now = L) (hA : brA a now = A) (hlt : p ≤ L) :
    Calls Try.prog 15 #[.pointer (some ⟨b, 0, none⟩), .int .i64 now] w fun e w' => e = .returned (.tuple #[.bool true, .int .i64 0]) ∧ Hid (Blk w' b [.int .i64 r, .int .i64 p, .int .i64 u, .int .i64 (L - p), .int .i64 A] 56 ∧ Chg [b] w w') := by
  have K := Lib.hid (rbring_any b r p u f l a now w h N n0 n1)
  have N2 := (N.bring n1).num
  rw [hL, hA] at K N2
  clear h N hL hA
  obtain ⟨h1, h2, h3, h4, h5, h6, h7, h8, h9, ha⟩ := N2
  go_enter Try.func15, Try.ntmps15
  go_wp2_with (first | (go_at_call 18; (with_reducible refine (rmoment_yes now n0 n1 _).mono ?_); rintro e w' ⟨rfl, rfl⟩))
  refine K.out.mono ?_
  rintro e w2 ⟨rfl, H⟩
  have c1 := H.out.1.cell 1 _ rfl
  have c3 := H.out.1.cell 3 _ rfl
  clear K
  go_wp2_with fail
  go_quiet (fail)
  go_wp2
  have HW := Lib.hid (show Blk (w2.drewN nq) b [.int .i64 r, .int .i64 p, .int .i64 u, .int .i64 L, .int .i64 A] 56 ∧ Chg [b] w (w2.drewN nq) from ⟨H.out.1.drewN nq, H.out.2.drewN nq⟩)
  clear c1 c3
  generalize w2.drewN nq = w4 at *
  have c1 := HW.out.1.cell 1 _ rfl
  have c3 := HW.out.1.cell 3 _ rfl
  have hwr : IntKind.i64.wrap (L - p) = L - p := IntWalk.i64_in _ (by omega)
  go_still_tail 10, (by kernel_rfl)
  change wpList _ _ _ _ _ w4.drew
  have HX := Lib.hid (show Blk w4.drew b [.int .i64 r, .int .i64 p, .int .i64 u, .int .i64 L, .int .i64 A] 56 ∧ Chg [b] w w4.drew from ⟨HW.out.1.kept rfl, HW.out.2.drew⟩)
  have f3'' := HX.out.1.free 3
  have c3'' := HX.out.1.cell 3 _ rfl
  clear c1 c3
  generalize w4.drew = w3 at *
  go_wp2
  go_ret2
  exact ⟨rfl, HX.out.1.set 3 _, HX.out.2.setCell (by simp) _⟩
theorem need_up (r p l : Int) (hr : 0 < r) (hl : l < p) (h : (p - l) / r * r < p - l) : need r p l = (p - l) / r + 1 := by
  unfold need
  have h1 := Int.mul_ediv_add_emod (p - l) r
  have h2 := Int.emod_lt_of_pos (p - l) hr
  have h3 := Int.emod_nonneg (p - l) (show r ≠ 0 by omega)
  have e : r * ((p - l) / r) = (p - l) / r * r := Int.mul_comm _ _
  generalize (p - l) / r = q at *
  have e2 : p - l + r - 1 = (p - l) % r - 1 + r * (q + 1) := by rw [Int.mul_add]; omega
  rw [e2, Int.add_mul_ediv_left _ _ (by omega), Int.ediv_eq_zero_of_lt (by omega) (by omega)]
  omega
theorem need_at (r p l : Int) (hr : 0 < r) (hl : l < p) (h : ¬ (p - l) / r * r < p - l) : need r p l = (p - l) / r := by
  unfold need
  have h1 := Int.mul_ediv_add_emod (p - l) r
  have h3 := Int.emod_nonneg (p - l) (show r ≠ 0 by omega)
  have e : r * ((p - l) / r) = (p - l) / r * r := Int.mul_comm _ _
  generalize (p - l) / r = q at *
  have e2 : p - l + r - 1 = r - 1 + r * q := by omega
  rw [e2, Int.add_mul_ediv_left _ _ (by omega), Int.ediv_eq_zero_of_lt (by omega) (by omega)]
  omega
theorem full_lt (r p u f l a : Int) (N : RNum r p u f l a) : u = 0 ↔ f < p := by
  obtain ⟨⟨h1, h2, h3, h4, h5, h6, h7, h8, h9, ha⟩, u0, u1, hful⟩ := N
  constructor
  · intro h; subst h; rw [Int.zero_mul] at hful; omega
  · intro h
    by_cases hu : u = 0
    · exact hu
    · have : 1 * p ≤ u * p := Int.mul_le_mul_of_nonneg_right (by omega) (by omega)
      omega
set_option maxHeartbeats 4000000 in
set_option maxRecDepth 100000 in
theorem rnext_any (b : Nat) (r p u f l a : Int) (w : World) (h : Blk w b [.int .i64 r, .int .i64 p, .int .i64 u, .int .i64 l, .int .i64 a] 56) (N : RNum r p u f l a) (x : Int) (y : Bool) (hx : nx r p f l a = (x, y)) :
    Calls Try.prog 17 #[.pointer (some ⟨b, 0, none⟩)] w fun e w' => e = .returned (.tuple #[.int .i64 x, .bool y]) ∧ Hid (Chg [] w w') := by
  have HB := Lib.hid h
  have c0 := h.cell 0 _ rfl
  have c1 := h.cell 1 _ rfl
  have c2 := h.cell 2 _ rfl
  have c3 := h.cell 3 _ rfl
  have c4 := h.cell 4 _ rfl
  clear h
  have hu := full_lt r p u f l a N
  obtain ⟨⟨h1, h2, h3, h4, h5, h6, h7, h8, h9, ha⟩, u0, u1, hful⟩ := N
  clear hful
  unfold nx at hx
  by_cases k1 : p ≤ l
  · rw [if_pos k1] at hx
    injection hx with e1 e2
    subst e1 e2
    clear hu
    go_enter Try.func17, Try.ntmps17
    go_wp2
    go_quiet (fail)
    go_wp2
    go_ret2
    exact ⟨rfl, (Chg.refl _ _).drewN nq⟩
  rw [if_neg k1] at hx
  by_cases k2 : r = 0
  · rw [if_pos (.inl k2)] at hx
    injection hx with e1 e2
    subst e1 e2 k2
    clear hu
    go_enter Try.func17, Try.ntmps17
    go_wp2
    go_quiet (fail)
    go_wp2
    go_ret2
    exact ⟨rfl, (Chg.refl _ _).drewN _⟩
  have k2' : (r == 0) = false := beq_eq_false_iff_ne.2 k2
  by_cases k3 : f < p
  · rw [if_pos (.inr k3)] at hx
    injection hx with e1 e2
    obtain rfl := hu.2 k3
    subst e1 e2
    clear hu
    go_enter Try.func17, Try.ntmps17
    go_wp2
    go_quiet (fail)
    go_wp2
    go_ret2
    exact ⟨rfl, (Chg.refl _ _).drewN _⟩
  rw [if_neg (by omega)] at hx
  have k3' : (u == 0) = false := beq_eq_false_iff_ne.2 (fun h => k3 (hu.1 h))
  clear hu
  have w1 : IntKind.i64.wrap (p - l) = p - l := IntWalk.i64_in _ (by omega)
  have hq0 : 0 ≤ (p - l) / r := Int.ediv_nonneg (by omega) h1
  have hq1 : (p - l) / r ≤ p - l := Int.ediv_le_self _ (by omega)
  have hqr : (p - l) / r * r ≤ p - l := Int.ediv_mul_le _ k2
  have hqr0 : 0 ≤ (p - l) / r * r := Int.mul_nonneg hq0 h1
  have w2 : IntKind.i64.wrap ((p - l) / r * r) = (p - l) / r * r := IntWalk.i64_in _ (by omega)
  by_cases k5 : (p - l) / r * r < p - l
  · rw [need_up r p l (by omega) (by omega) k5] at hx
    by_cases k4 : 4611686018427387904 - a < (p - l) / r + 1
    · rw [if_pos k4] at hx
      injection hx with e1 e2
      subst e1 e2
      go_enter Try.func17, Try.ntmps17
      go_wp2
      go_quiet (fail)
      go_wp2
      go_quiet (fail)
      generalize hq : (p - l) / r = q at *
      have HQ := Lib.hid hq
      clear hq
      go_wp2
      go_quiet (fail)
      go_wp2
      go_ret2
      obtain rfl := HQ.out
      exact ⟨rfl, (Chg.refl _ _).drewN _⟩
    · rw [if_neg k4] at hx
      injection hx with e1 e2
      subst e1 e2
      go_enter Try.func17, Try.ntmps17
      go_wp2
      go_quiet (fail)
      go_wp2
      go_quiet (fail)
      generalize hq : (p - l) / r = q at *
      have HQ := Lib.hid hq
      clear hq
      have w6 : IntKind.i64.wrap (a + (q + 1)) = a + (q + 1) := IntWalk.i64_in _ (by omega)
      go_wp2
      go_quiet (fail)
      go_wp2
      go_ret2
      obtain rfl := HQ.out
      exact ⟨rfl, (Chg.refl _ _).drewN _⟩
  · rw [need_at r p l (by omega) (by omega) k5] at hx
    by_cases k4 : 4611686018427387904 - a < (p - l) / r
    · rw [if_pos k4] at hx
      injection hx with e1 e2
      subst e1 e2
      go_enter Try.func17, Try.ntmps17
      go_wp2
      go_quiet (fail)
      go_wp2
      go_quiet (fail)
      generalize hq : (p - l) / r = q at *
      have HQ := Lib.hid hq
      clear hq
      go_wp2
      go_quiet (fail)
      go_wp2
      go_ret2
      obtain rfl := HQ.out
      exact ⟨rfl, (Chg.refl _ _).drewN _⟩
    · rw [if_neg k4] at hx
      injection hx with e1 e2
      subst e1 e2
      go_enter Try.func17, Try.ntmps17
      go_wp2
      go_quiet (fail)
      go_wp2
      go_quiet (fail)
      generalize hq : (p - l) / r = q at *
      have HQ := Lib.hid hq
      clear hq
      have w6 : IntKind.i64.wrap (a + (q)) = a + (q) := IntWalk.i64_in _ (by omega)
      go_wp2
      go_quiet (fail)
      go_wp2
      go_ret2
      obtain rfl := HQ.out
      exact ⟨rfl, (Chg.refl _ _).drewN _⟩
/-- The numbers that a bucket is made of. -/
def Good (r p u now : Int) : Prop := 0 ≤ r ∧ r ≤ 1000000 ∧ 1 ≤ p ∧ p ≤ 1000000 ∧ 0 ≤ u ∧ u ≤ 1000000 ∧ 0 ≤ now ∧ now ≤ 4611686018427387904
theorem good_num {r p u now : Int} (h : Good r p u now) : RNum r p u (u * p) (u * p) now := by
  obtain ⟨h1, h2, h3, h4, h5, h6, h7, h8⟩ := h
  have m0 : 0 ≤ u * p := Int.mul_nonneg h5 (by omega)
  have m1 : u * p ≤ 1000000 * 1000000 := Int.mul_le_mul h6 h4 (by omega) (by omega)
  exact ⟨⟨h1, h2, h3, h4, m0, by omega, m0, Int.le_refl _, h7, h8⟩, h5, h6, rfl⟩
set_option maxHeartbeats 1000000 in
theorem new_ok (r p u now : Int) (w : World) (h : Good r p u now) :
    Calls Try.prog 9 #[.int .i64 r, .int .i64 p, .int .i64 u, .int .i64 now] w fun e w' => e = .returned (.tuple #[.pointer (some ⟨w.heap.size, 0, none⟩), .int .i64 0]) ∧ Hid (Blk w' w.heap.size [.int .i64 r, .int .i64 p, .int .i64 (u * p), .int .i64 (u * p), .int .i64 now] 54 ∧ Chg [] w w') := by
  have N := good_num h
  obtain ⟨h1, h2, h3, h4, h5, h6, h7, h8⟩ := h
  have hwr : IntKind.i64.wrap (u * p) = u * p := IntWalk.i64_in _ (by have := N.num.f0; have := N.num.f1; omega)
  have m0 := N.num.f0
  have m1 := N.num.f1
  clear N
  have hp : (p == 0) = false := beq_eq_false_iff_ne.2 (by omega)
  go_enter Try.func9, Try.ntmps9
  go_wp2_with (first | (go_at_call 23; (with_reducible refine (add_ok now h7 h8 _).mono ?_); rintro e w' ⟨rfl, rfl⟩) | (go_at_call 24; (with_reducible refine (count_yes r h1 h2 _).mono ?_); rintro e w' ⟨rfl, rfl⟩) | (go_at_call 24; (with_reducible refine (count_yes u h5 h6 _).mono ?_); rintro e w' ⟨rfl, rfl⟩) | (go_at_call 24; (with_reducible refine (count_yes p (by omega) h4 _).mono ?_); rintro e w' ⟨rfl, rfl⟩))
  go_ret2
  exact ⟨rfl, Blk.new w [.int .i64 r, .int .i64 p, .int .i64 (u * p), .int .i64 (u * p), .int .i64 now] 54, (Chg.refl _ _).alloc _⟩
theorem new_bad (r p u now : Int) (h : ¬ Good r p u now) (w : World) : Calls Try.prog 9 #[.int .i64 r, .int .i64 p, .int .i64 u, .int .i64 now] w fun e w' => e = .returned (.tuple #[.pointer none, .int .i64 1]) ∧ w = w' := by
  by_cases k1 : now < 0 ∨ 4611686018427387904 < now
  · clear h
    go_enter Try.func9, Try.ntmps9
    go_wp2_with (first | (go_at_call 23; (with_reducible refine (add_bad now k1 _).mono ?_); rintro e w' ⟨rfl, rfl⟩))
    go_ret2
    exact ⟨rfl, rfl⟩
  have n0 : 0 ≤ now := by omega
  have n1 : now ≤ 4611686018427387904 := by omega
  clear k1
  by_cases k2 : r < 0 ∨ 1000000 < r
  · clear h
    go_enter Try.func9, Try.ntmps9
    go_wp2_with (first | (go_at_call 23; (with_reducible refine (add_ok now n0 n1 _).mono ?_); rintro e w' ⟨rfl, rfl⟩) | (go_at_call 24; (with_reducible refine (count_no r k2 _).mono ?_); rintro e w' ⟨rfl, rfl⟩))
    go_ret2
    exact ⟨rfl, rfl⟩
  have r0 : 0 ≤ r := by omega
  have r1 : r ≤ 1000000 := by omega
  clear k2
  by_cases k3 : u < 0 ∨ 1000000 < u
  · clear h
    go_enter Try.func9, Try.ntmps9
    go_wp2_with (first | (go_at_call 23; (with_reducible refine (add_ok now n0 n1 _).mono ?_); rintro e w' ⟨rfl, rfl⟩) | (go_at_call 24; (with_reducible refine (count_yes r r0 r1 _).mono ?_); rintro e w' ⟨rfl, rfl⟩) | (go_at_call 24; (with_reducible refine (count_no u k3 _).mono ?_); rintro e w' ⟨rfl, rfl⟩))
    go_ret2
    exact ⟨rfl, rfl⟩
  have u0 : 0 ≤ u := by omega
  have u1 : u ≤ 1000000 := by omega
  clear k3
  by_cases k4 : p < 0 ∨ 1000000 < p
  · clear h
    go_enter Try.func9, Try.ntmps9
    go_wp2_with (first | (go_at_call 23; (with_reducible refine (add_ok now n0 n1 _).mono ?_); rintro e w' ⟨rfl, rfl⟩) | (go_at_call 24; (with_reducible refine (count_yes r r0 r1 _).mono ?_); rintro e w' ⟨rfl, rfl⟩) | (go_at_call 24; (with_reducible refine (count_yes u u0 u1 _).mono ?_); rintro e w' ⟨rfl, rfl⟩) | (go_at_call 24; (with_reducible refine (count_no p k4 _).mono ?_); rintro e w' ⟨rfl, rfl⟩))
    go_ret2
    exact ⟨rfl, rfl⟩
  obtain rfl : p = 0 := by unfold Good at h; omega
  clear h k4
  go_enter Try.func9, Try.ntmps9
  go_wp2_with (first | (go_at_call 23; (with_reducible refine (add_ok now n0 n1 _).mono ?_); rintro e w' ⟨rfl, rfl⟩) | (go_at_call 24; (with_reducible refine (count_yes r r0 r1 _).mono ?_); rintro e w' ⟨rfl, rfl⟩) | (go_at_call 24; (with_reducible refine (count_yes u u0 u1 _).mono ?_); rintro e w' ⟨rfl, rfl⟩) | (go_at_call 24; (with_reducible refine (count_yes 0 (by omega) (by omega) _).mono ?_); rintro e w' ⟨rfl, rfl⟩))
  go_ret2
  exact ⟨rfl, rfl⟩
set_option maxHeartbeats 1000000 in
theorem rnew_ok (r p u now : Int) (w : World) (h : Good r p u now) :
    Calls Try.prog 10 #[.int .i64 r, .int .i64 p, .int .i64 u, .int .i64 now] w fun e w' => e = .returned (.tuple #[.pointer (some ⟨w.heap.size, 0, none⟩), .int .i64 0]) ∧ Hid (Blk w' w.heap.size [.int .i64 r, .int .i64 p, .int .i64 u, .int .i64 (u * p), .int .i64 now] 56 ∧ Chg [] w w') := by
  have N := good_num h
  obtain ⟨h1, h2, h3, h4, h5, h6, h7, h8⟩ := h
  have hwr : IntKind.i64.wrap (u * p) = u * p := IntWalk.i64_in _ (by have := N.num.f0; have := N.num.f1; omega)
  have m0 := N.num.f0
  have m1 := N.num.f1
  clear N
  go_enter Try.func10, Try.ntmps10
  go_wp2_with (first | (go_at_call 18; (with_reducible refine (rmoment_yes now h7 h8 _).mono ?_); rintro e w' ⟨rfl, rfl⟩))
  go_ret2
  exact ⟨rfl, Blk.new w [.int .i64 r, .int .i64 p, .int .i64 u, .int .i64 (u * p), .int .i64 now] 56, (Chg.refl _ _).alloc _⟩
theorem rnew_bad (r p u now : Int) (h : ¬ Good r p u now) (w : World) : Calls Try.prog 10 #[.int .i64 r, .int .i64 p, .int .i64 u, .int .i64 now] w fun e w' => e = .returned (.tuple #[.pointer none, .int .i64 1]) ∧ w = w' := by
  by_cases k1 : r < 0
  · clear h
    go_enter Try.func10, Try.ntmps10
    go_wp2_with fail
    go_ret2
    exact ⟨rfl, rfl⟩
  have k10 : 0 ≤ r := by omega
  clear k1
  by_cases k1 : 1000000 < r
  · clear h
    go_enter Try.func10, Try.ntmps10
    go_wp2_with fail
    go_ret2
    exact ⟨rfl, rfl⟩
  have k11 : r ≤ 1000000 := by omega
  clear k1
  by_cases k1 : u < 0
  · clear h
    go_enter Try.func10, Try.ntmps10
    go_wp2_with fail
    go_ret2
    exact ⟨rfl, rfl⟩
  have k12 : 0 ≤ u := by omega
  clear k1
  by_cases k1 : 1000000 < u
  · clear h
    go_enter Try.func10, Try.ntmps10
    go_wp2_with fail
    go_ret2
    exact ⟨rfl, rfl⟩
  have k13 : u ≤ 1000000 := by omega
  clear k1
  by_cases k1 : p < 1
  · clear h
    go_enter Try.func10, Try.ntmps10
    go_wp2_with fail
    go_ret2
    exact ⟨rfl, rfl⟩
  have k14 : 1 ≤ p := by omega
  clear k1
  by_cases k1 : 1000000 < p
  · clear h
    go_enter Try.func10, Try.ntmps10
    go_wp2_with fail
    go_ret2
    exact ⟨rfl, rfl⟩
  have k15 : p ≤ 1000000 := by omega
  clear k1
  have hn : now < 0 ∨ 4611686018427387904 < now := by unfold Good at h; omega
  clear h
  go_enter Try.func10, Try.ntmps10
  go_wp2_with (first | (go_at_call 18; (with_reducible refine (rmoment_no now hn _).mono ?_); rintro e w' ⟨rfl, rfl⟩))
  go_ret2
  exact ⟨rfl, rfl⟩
end Go.Proofs.Ytaknohobpapmeaa
