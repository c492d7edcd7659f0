/- A bucket's methods: how many tokens there are, the taking of one, and when the next one is. -/
import Derived.Test.YtaknohobpapmeaaS1
namespace Go.Proofs.Ytaknohobpapmeaa
open Go.RowKit
set_option linter.unusedVariables false

theorem hb_chg {b : Nat} {cs : List Value} {T : Nat} {w w' : World} (h : Blk w b cs T ∧ Chg [b] w w') : Chg [b] w w' := h.2
set_option maxHeartbeats 1000000 in
theorem tok_any (b : Nat) (r p f l a now L A : Int) (w : World) (h : Blk w b [.int .i64 r, .int .i64 p, .int .i64 f, .int .i64 l, .int .i64 a] 54) (N : Num r p f l a) (n0 : 0 ≤ now) (n1 : now ≤ 4611686018427387904) (hL : brL r f l a now = L) (hA : brA a now = A) :
    Calls Try.prog 12 #[.pointer (some ⟨b, 0, none⟩), .int .i64 now] w fun e w' => e = .returned (.tuple #[.int .i64 (L / p), .int .i64 0]) ∧ Hid (Blk w' b [.int .i64 r, .int .i64 p, .int .i64 f, .int .i64 L, .int .i64 A] 54 ∧ Chg [b] w w') := by
  have K := Lib.hid (bring_any b r p f l a now w h N n0 n1)
  have N2 := N.bring n1
  rw [hL, hA] at N2 K
  clear h hL hA N
  obtain ⟨h1, h2, h3, h4, h5, h6, h7, h8, h9, ha⟩ := N2
  go_enter Try.func12, Try.ntmps12
  go_wp2_with (first | (go_at_call 23; (with_reducible refine (add_ok now n0 n1 _).mono ?_); rintro e w' ⟨rfl, rfl⟩))
  refine K.out.mono ?_
  rintro e w2 ⟨rfl, H⟩
  have c1 := H.out.1.cell 1 _ rfl
  have c3 := H.out.1.cell 3 _ rfl
  clear K
  go_wp2_with fail
  have hp : (p == 0) = false := beq_eq_false_iff_ne.2 (by omega)
  have hq0 : 0 ≤ L / p := Int.ediv_nonneg h7 (by omega)
  go_quiet (fail)
  go_wp2
  go_ret2
  exact ⟨rfl, H.out.1.drewN nq, H.out.2.drewN nq⟩
theorem tok_nil (now : Int) (n0 : 0 ≤ now) (n1 : now ≤ 4611686018427387904) (w : World) : Calls Try.prog 12 #[.pointer none, .int .i64 now] w fun e w' => e = .returned (.tuple #[.int .i64 0, .int .i64 0]) ∧ w = w' := by
  go_enter Try.func12, Try.ntmps12
  go_wp2_with (first | (go_at_call 23; (with_reducible refine (add_ok now n0 n1 _).mono ?_); rintro e w' ⟨rfl, rfl⟩))
  go_ret2
  exact ⟨rfl, rfl⟩
theorem tok_bad (q : Option Addr) (now : Int) (h : now < 0 ∨ 4611686018427387904 < now) (w : World) : Calls Try.prog 12 #[.pointer q, .int .i64 now] w fun e w' => e = .returned (.tuple #[.int .i64 0, .int .i64 1]) ∧ w = w' := by
  go_enter Try.func12, Try.ntmps12
  go_wp2_with (first | (go_at_call 23; (with_reducible refine (add_bad now h _).mono ?_); rintro e w' ⟨rfl, rfl⟩))
  go_ret2
  exact ⟨rfl, rfl⟩
theorem take_bad (q : Option Addr) (now : Int) (h : now < 0 ∨ 4611686018427387904 < now) (w : World) : Calls Try.prog 14 #[.pointer q, .int .i64 now] w fun e w' => e = .returned (.tuple #[.bool false, .int .i64 1]) ∧ w = w' := by
  go_enter Try.func14, Try.ntmps14
  go_wp2_with (first | (go_at_call 12; (with_reducible refine (tok_bad q now h _).mono ?_); rintro e w' ⟨rfl, rfl⟩))
  go_ret2
  exact ⟨rfl, rfl⟩
theorem take_nil (now : Int) (n0 : 0 ≤ now) (n1 : now ≤ 4611686018427387904) (w : World) : Calls Try.prog 14 #[.pointer none, .int .i64 now] w fun e w' => e = .returned (.tuple #[.bool false, .int .i64 0]) ∧ w = w' := by
  go_enter Try.func14, Try.ntmps14
  go_wp2_with (first | (go_at_call 12; (with_reducible refine (tok_nil now n0 n1 _).mono ?_); rintro e w' ⟨rfl, rfl⟩))
  go_ret2
  exact ⟨rfl, rfl⟩
theorem div_zero_of (l p : Int) (h0 : 0 ≤ l) (h : l < p) : l / p = 0 := Int.ediv_eq_zero_of_lt h0 h
theorem div_pos_of (l p : Int) (hp : 1 ≤ p) (h : p ≤ l) : 1 ≤ l / p := by
  have := Int.le_ediv_of_mul_le (a := 1) (b := l) (c := p) (by omega) (by omega)
  exact this
theorem take_no (b : Nat) (r p f l a now L A : Int) (w : World) (h : Blk w b [.int .i64 r, .int .i64 p, .int .i64 f, .int .i64 l, .int .i64 a] 54) (N : Num r p f l a) (n0 : 0 ≤ now) (n1 : now ≤ 4611686018427387904) (hL : brL r f l a now = L) (hA : brA a now = A) (hlt : L < p) :
    Calls Try.prog 14 #[.pointer (some ⟨b, 0, none⟩), .int .i64 now] w fun e w' => e = .returned (.tuple #[.bool false, .int .i64 0]) ∧ Hid (Blk w' b [.int .i64 r, .int .i64 p, .int .i64 f, .int .i64 L, .int .i64 A] 54 ∧ Chg [b] w w') := by
  have K := Lib.hid (tok_any b r p f l a now L A w h N n0 n1 hL hA)
  have N2 := N.bring n1
  rw [hL] at N2
  rw [div_zero_of L p N2.l0 hlt] at K
  clear h N N2 hL hA hlt
  go_enter Try.func14, Try.ntmps14
  go_wp2_with fail
  refine K.out.mono ?_
  rintro e w2 ⟨rfl, H⟩
  clear K
  go_wp2_with fail
  go_ret2
  exact ⟨rfl, H⟩
set_option maxHeartbeats 1000000 in
theorem take_yes (b : Nat) (r p f l a now L A : Int) (w : World) (h : Blk w b [.int .i64 r, .int .i64 p, .int .i64 f, .int .i64 l, .int .i64 a] 54) (N : Num r p f l a) (n0 : 0 ≤ now) (n1 : now ≤ 4611686018427387904) (hL : brL r f l a now = L) (hA : brA a now = A) (hlt : p ≤ L) :
    Calls Try.prog 14 #[.pointer (some ⟨b, 0, none⟩), .int .i64 now] w fun e w' => e = .returned (.tuple #[.bool true, .int .i64 0]) ∧ Hid (Blk w' b [.int .i64 r, .int .i64 p, .int .i64 f, .int .i64 (L - p), .int .i64 A] 54 ∧ Chg [b] w w') := by
  have K := Lib.hid (tok_any b r p f l a now L A w h N n0 n1 hL hA)
  have N2 := N.bring n1
  rw [hL, hA] at N2
  have hq := div_pos_of L p N2.p0 hlt
  have hz : (L / p == 0) = false := beq_eq_false_iff_ne.2 (by omega)
  clear hq
  generalize L / p = q at *
  obtain ⟨h1, h2, h3, h4, h5, h6, h7, h8, h9, ha⟩ := N2
  clear h N hL hA
  go_enter Try.func14, Try.ntmps14
  go_wp2_with fail
  refine K.out.mono ?_
  rintro e w2 ⟨rfl, H⟩
  clear K
  have c1 := H.out.1.cell 1 _ rfl
  have c3 := H.out.1.cell 3 _ rfl
  have hwr : IntKind.i64.wrap (L - p) = L - p := IntWalk.i64_in _ (by omega)
  go_wp2_with fail
  go_still_tail 9, (by kernel_rfl)
  change wpList _ _ _ _ _ w2.drew
  have HX := Lib.hid (show Blk w2.drew b [.int .i64 r, .int .i64 p, .int .i64 f, .int .i64 L, .int .i64 A] 54 ∧ Chg [b] w w2.drew from ⟨H.out.1.kept rfl, H.out.2.drew⟩)
  have f3'' := HX.out.1.free 3
  have c3'' := HX.out.1.cell 3 _ rfl
  clear c1 c3
  generalize w2.drew = w3 at *
  go_wp2
  go_ret2
  exact ⟨rfl, HX.out.1.set 3 _, HX.out.2.setCell (by simp) _⟩
theorem next_nil (w : World) : Calls Try.prog 16 #[.pointer none] w fun e w' => e = .returned (.tuple #[.int .i64 0, .bool false]) ∧ w = w' := by
  go_enter Try.func16, Try.ntmps16
  go_wp2
  go_ret2
  exact ⟨rfl, rfl⟩
/-- How many ticks till there is a token. -/
def need (r p l : Int) : Int := (p - l + r - 1) / r
/-- When the next token is. -/
def nx (r p f l a : Int) : Int × Bool := if p ≤ l then (a, true) else if r = 0 ∨ f < p then (0, false) else if 4611686018427387904 - a < need r p l then (0, false) else (a + need r p l, true)
set_option maxHeartbeats 2000000 in
set_option maxRecDepth 100000 in
theorem next_any (b : Nat) (r p f l a : Int) (w : World) (h : Blk w b [.int .i64 r, .int .i64 p, .int .i64 f, .int .i64 l, .int .i64 a] 54) (N : Num r p f l a) (x : Int) (y : Bool) (hx : nx r p f l a = (x, y)) :
    Calls Try.prog 16 #[.pointer (some ⟨b, 0, none⟩)] w fun e w' => e = .returned (.tuple #[.int .i64 x, .bool y]) ∧ Hid (Chg [] w w') := by
  have HB := Lib.hid h
  have c0 := h.cell 0 _ rfl
  have c1 := h.cell 1 _ rfl
  have c2 := h.cell 2 _ rfl
  have c3 := h.cell 3 _ rfl
  have c4 := h.cell 4 _ rfl
  clear h
  obtain ⟨h1, h2, h3, h4, h5, h6, h7, h8, h9, ha⟩ := N
  unfold nx at hx
  by_cases k1 : p ≤ l
  · rw [if_pos k1] at hx
    injection hx with e1 e2
    subst e1 e2
    go_enter Try.func16, Try.ntmps16
    go_wp2
    go_quiet (fail)
    go_wp2
    go_ret2
    exact ⟨rfl, (Chg.refl _ _).drewN nq⟩
  rw [if_neg k1] at hx
  by_cases k2 : r = 0
  · rw [if_pos (.inl k2)] at hx
    injection hx with e1 e2
    subst e1 e2 k2
    go_enter Try.func16, Try.ntmps16
    go_wp2
    go_quiet (fail)
    go_wp2
    go_quiet (fail)
    go_wp2
    go_ret2
    exact ⟨rfl, ((Chg.refl _ _).drewN _).drewN _⟩
  have k2' : (r == 0) = false := beq_eq_false_iff_ne.2 k2
  by_cases k3 : f < p
  · rw [if_pos (.inr k3)] at hx
    injection hx with e1 e2
    subst e1 e2
    go_enter Try.func16, Try.ntmps16
    go_wp2
    go_quiet (fail)
    go_wp2
    go_quiet (fail)
    go_wp2
    go_ret2
    exact ⟨rfl, ((Chg.refl _ _).drewN _).drewN _⟩
  rw [if_neg (by omega)] at hx
  have w1 : IntKind.i64.wrap (p - l) = p - l := IntWalk.i64_in _ (by omega)
  have w2 : IntKind.i64.wrap (p - l + r) = p - l + r := IntWalk.i64_in _ (by omega)
  have w3 : IntKind.i64.wrap (p - l + r - 1) = p - l + r - 1 := IntWalk.i64_in _ (by omega)
  have hq0 : 0 ≤ need r p l := Int.ediv_nonneg (by omega) h1
  have hq1 : need r p l ≤ p - l + r - 1 := Int.ediv_le_self _ (by omega)
  by_cases k4 : 4611686018427387904 - a < need r p l
  · rw [if_pos k4] at hx
    injection hx with e1 e2
    subst e1 e2
    unfold need at *
    go_enter Try.func16, Try.ntmps16
    go_wp2
    go_quiet (fail)
    go_wp2
    go_quiet (fail)
    go_wp2
    go_quiet (fail)
    go_wp2
    go_ret2
    exact ⟨rfl, (Chg.refl _ _).drewN _⟩
  · rw [if_neg k4] at hx
    injection hx with e1 e2
    subst e1 e2
    unfold need at *
    have w4 : IntKind.i64.wrap (a + (p - l + r - 1) / r) = a + (p - l + r - 1) / r := IntWalk.i64_in _ (by omega)
    go_enter Try.func16, Try.ntmps16
    go_wp2
    go_quiet (fail)
    go_wp2
    go_quiet (fail)
    go_wp2
    go_quiet (fail)
    go_wp2
    go_ret2
    exact ⟨rfl, (Chg.refl _ _).drewN _⟩
end Go.Proofs.Ytaknohobpapmeaa
