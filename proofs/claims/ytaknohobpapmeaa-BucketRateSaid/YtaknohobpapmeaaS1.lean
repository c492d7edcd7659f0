/- Layers 1 and 15: the moments' contracts, and a bucket that is brought to a moment. -/
import Derived.Test.YtaknohobpapmeaaProg
import Derived.Test.YtaknohobpapmeaaK
import Derived.Test.YtaknohobpapmeaaR
import Derived.WalkKit
import Derived.Lib.Hide
import Derived.BigQuiet
import Derived.StillTailTactics
import Derived.Deep.RegionHeld3
namespace Go.Proofs.Ytaknohobpapmeaa
open Go.RowKit
set_option linter.unusedVariables false

theorem moment_yes (t : Int) (h : 0 ≤ t) (h' : t ≤ 4611686018427387904) (w : World) : Calls Try.prog 27 #[.int .i64 t] w fun e w' => e = .returned (.bool true) ∧ w = w' := by
  go_enter Try.func27, Try.ntmps27
  go_wp2
  all_goals go_ret
  all_goals exact ⟨by first | rfl | (simp [*]; done) | (simp [*]; omega) | (simp [*] at *; unfold wrap64 at *; omega), rfl⟩
theorem moment_no (t : Int) (h : t < 0 ∨ 4611686018427387904 < t) (w : World) : Calls Try.prog 27 #[.int .i64 t] w fun e w' => e = .returned (.bool false) ∧ w = w' := by
  rcases h with h | h
  all_goals
    go_enter Try.func27, Try.ntmps27
    go_wp2
    all_goals go_ret
    all_goals exact ⟨by first | rfl | (simp [*]; done) | (simp [*]; omega) | (simp [*] at *; unfold wrap64 at *; omega), rfl⟩
theorem rmoment_yes (t : Int) (h : 0 ≤ t) (h' : t ≤ 4611686018427387904) (w : World) : Calls Try.prog 18 #[.int .i64 t] w fun e w' => e = .returned (.bool true) ∧ w = w' := by
  go_enter Try.func18, Try.ntmps18
  go_wp2
  all_goals go_ret
  all_goals exact ⟨by first | rfl | (simp [*]; done) | (simp [*]; omega) | (simp [*] at *; unfold wrap64 at *; omega), rfl⟩
theorem rmoment_no (t : Int) (h : t < 0 ∨ 4611686018427387904 < t) (w : World) : Calls Try.prog 18 #[.int .i64 t] w fun e w' => e = .returned (.bool false) ∧ w = w' := by
  rcases h with h | h
  all_goals
    go_enter Try.func18, Try.ntmps18
    go_wp2
    all_goals go_ret
    all_goals exact ⟨by first | rfl | (simp [*]; done) | (simp [*]; omega) | (simp [*] at *; unfold wrap64 at *; omega), rfl⟩
theorem later_zero (t : Int) (h : 0 ≤ t) (h' : t ≤ 4611686018427387904) (w : World) : Calls Try.prog 28 #[.int .i64 t, .int .i64 0] w fun e w' => e = .returned (.int .i64 t) ∧ w = w' := by
  go_enter Try.func28, Try.ntmps28
  go_wp2
  all_goals go_ret
  all_goals exact ⟨by first | rfl | (simp [*]; done) | (simp [*]; omega) | (simp [*] at *; unfold wrap64 at *; omega), rfl⟩
theorem add_ok (t : Int) (h : 0 ≤ t) (h' : t ≤ 4611686018427387904) (w : World) : Calls Try.prog 23 #[.int .i64 t, .int .i64 0] w fun e w' => e = .returned (.tuple #[.int .i64 t, .int .i64 0]) ∧ w = w' := by
  go_enter Try.func23, Try.ntmps23
  go_wp2_with (first | (go_at_call 27; (with_reducible refine (moment_yes t h h' _).mono ?_); rintro e w' ⟨rfl, rfl⟩) | (go_at_call 28; (with_reducible refine (later_zero t h h' _).mono ?_); rintro e w' ⟨rfl, rfl⟩))
  go_ret2
  exact ⟨rfl, rfl⟩
theorem add_bad (t : Int) (h : t < 0 ∨ 4611686018427387904 < t) (w : World) : Calls Try.prog 23 #[.int .i64 t, .int .i64 0] w fun e w' => e = .returned (.tuple #[.int .i64 0, .int .i64 1]) ∧ w = w' := by
  go_enter Try.func23, Try.ntmps23
  go_wp2_with (first | (go_at_call 27; (with_reducible refine (moment_no t h _).mono ?_); rintro e w' ⟨rfl, rfl⟩))
  go_ret2
  exact ⟨rfl, rfl⟩
theorem count_yes (t : Int) (h : 0 ≤ t) (h' : t ≤ 1000000) (w : World) : Calls Try.prog 24 #[.int .i64 t] w fun e w' => e = .returned (.bool true) ∧ w = w' := by
  go_enter Try.func24, Try.ntmps24
  go_wp2
  all_goals go_ret
  all_goals exact ⟨by first | rfl | (simp [*]; done) | (simp [*]; omega) | (simp [*] at *; unfold wrap64 at *; omega), rfl⟩
theorem count_no (t : Int) (h : t < 0 ∨ 1000000 < t) (w : World) : Calls Try.prog 24 #[.int .i64 t] w fun e w' => e = .returned (.bool false) ∧ w = w' := by
  rcases h with h | h
  all_goals
    go_enter Try.func24, Try.ntmps24
    go_wp2
    all_goals go_ret
    all_goals exact ⟨by first | rfl | (simp [*]; done) | (simp [*]; omega) | (simp [*] at *; unfold wrap64 at *; omega), rfl⟩
/-- The level after gone ticks. -/
def lev (r f l g : Int) : Int := if f < l + g * r then f else l + g * r
theorem lev_zero (f l g : Int) (h : l ≤ f) : lev 0 f l g = l := by unfold lev; rw [Int.mul_zero, Int.add_zero, if_neg (by omega)]
theorem lev_none (r f l : Int) (h : l ≤ f) : lev r f l 0 = l := by unfold lev; rw [Int.zero_mul, Int.add_zero, if_neg (by omega)]
theorem lev_le (r f l g : Int) : lev r f l g ≤ f := by unfold lev; split <;> omega
theorem lev_ge (r f l g : Int) (h : l ≤ f) (r0 : 0 ≤ r) (g0 : 0 ≤ g) : l ≤ lev r f l g := by
  have := Int.mul_nonneg g0 r0
  unfold lev; split <;> omega
/-- Brought to a moment: the level, the moment. -/
def brL (r f l a now : Int) : Int := if now ≤ a then l else lev r f l (now - a)
def brA (a now : Int) : Int := if now ≤ a then a else now
/-- A bucket's numbers. -/
structure Num (r p f l a : Int) : Prop where
  r0 : 0 ≤ r
  r1 : r ≤ 1000000
  p0 : 1 ≤ p
  p1 : p ≤ 1000000
  f0 : 0 ≤ f
  f1 : f ≤ 1000000000000
  l0 : 0 ≤ l
  l1 : l ≤ f
  a0 : 0 ≤ a
  a1 : a ≤ 4611686018427387904
theorem Num.bring {r p f l a now : Int} (h : Num r p f l a) (n1 : now ≤ 4611686018427387904) : Num r p f (brL r f l a now) (brA a now) := by
  obtain ⟨h1, h2, h3, h4, h5, h6, h7, h8, h9, ha⟩ := h
  unfold brL brA
  by_cases c : now ≤ a
  · rw [if_pos c, if_pos c]
    exact ⟨h1, h2, h3, h4, h5, h6, h7, h8, h9, ha⟩
  · rw [if_neg c, if_neg c]
    have := lev_ge r f l (now - a) h8 h1 (by omega)
    exact ⟨h1, h2, h3, h4, h5, h6, by omega, lev_le _ _ _ _, by omega, n1⟩
theorem lev_div (r f l g : Int) (hr : 0 < r) (hl : l ≤ f) : (f < l + g * r → (f - l) / r < g) ∧ (¬ f < l + g * r → ¬ (f - l) / r < g) := by
  have h1 : (f - l) / r < g ↔ f - l < g * r := Int.ediv_lt_iff_lt_mul hr
  constructor
  · intro h; rw [h1]; omega
  · intro h; rw [h1]; omega
set_option maxHeartbeats 2000000 in
theorem bring_any (b : Nat) (r p f l a now : Int) (w : World) (h : Blk w b [.int .i64 r, .int .i64 p, .int .i64 f, .int .i64 l, .int .i64 a] 54) (N : Num r p f l a) (n0 : 0 ≤ now) (n1 : now ≤ 4611686018427387904) :
    Calls Try.prog 25 #[.pointer (some ⟨b, 0, none⟩), .int .i64 now] w fun e w' => e = .returned (.tuple #[]) ∧ Hid (Blk w' b [.int .i64 r, .int .i64 p, .int .i64 f, .int .i64 (brL r f l a now), .int .i64 (brA a now)] 54 ∧ Chg [b] w w') := by
  obtain ⟨h1, h2, h3, h4, h5, h6, h7, h8, h9, ha⟩ := N
  have c0 := h.cell 0 _ rfl
  have c2 := h.cell 2 _ rfl
  have c3 := h.cell 3 _ rfl
  have c4 := h.cell 4 _ rfl
  have f3 := h.free 3
  have f4 := h.free 4
  have HB := Lib.hid h
  clear h
  by_cases hle : now ≤ a
  · have e1 : brL r f l a now = l := by unfold brL; rw [if_pos hle]
    have e2 : brA a now = a := by unfold brA; rw [if_pos hle]
    rw [e1, e2]
    clear e1 e2
    go_enter Try.func25, Try.ntmps25
    go_wp2
    (refine bodyPost_ret (results_none rfl _ _ _) rfl ?_)
    exact ⟨rfl, HB.out, Chg.refl _ _⟩
  have e1 : brL r f l a now = lev r f l (now - a) := by unfold brL; rw [if_neg hle]
  have e2 : brA a now = now := by unfold brA; rw [if_neg hle]
  rw [e1, e2]
  clear e1 e2
  by_cases hr : r = 0
  · subst hr
    rw [lev_zero f l _ h8]
    go_enter Try.func25, Try.ntmps25
    go_wp2
    (refine bodyPost_ret (results_none rfl _ _ _) rfl ?_)
    exact ⟨rfl, HB.out.set 4 _, (Chg.refl _ _).setCell (by simp) _⟩
  have hd := lev_div r f l (now - a) (by omega) h8
  have hwr : IntKind.i64.wrap (f - l) = f - l := IntWalk.i64_in _ (by omega)
  have hq0 : 0 ≤ (f - l) / r := Int.ediv_nonneg (by omega) h1
  by_cases hlt : f < l + (now - a) * r
  · have h2 := hd.1 hlt
    have e : lev r f l (now - a) = f := by unfold lev; rw [if_pos hlt]
    rw [e]
    clear e hlt hd
    go_enter Try.func25, Try.ntmps25
    go_wp2
    go_quiet (fail)
    go_wp2
    go_end0
    exact ⟨rfl, ((HB.out.set 4 _).drewN nq).set 3 _, (((Chg.refl _ _).setCell (by simp) _).drewN nq).setCell (by simp) _⟩
  · have h2 := hd.2 hlt
    have e : lev r f l (now - a) = l + (now - a) * r := by unfold lev; rw [if_neg hlt]
    rw [e]
    have hm0 : 0 ≤ (now - a) * r := Int.mul_nonneg (by omega) h1
    have hm1 : (now - a) * r ≤ 1000000000000 := by omega
    have hwr2 : IntKind.i64.wrap ((now - a) * r) = (now - a) * r := IntWalk.i64_in _ (by omega)
    have hwr3 : IntKind.i64.wrap (l + (now - a) * r) = l + (now - a) * r := IntWalk.i64_in _ (by omega)
    clear e hd
    go_enter Try.func25, Try.ntmps25
    go_wp2
    go_quiet (fail)
    go_wp2
    have HW := Lib.hid (show Blk ((w.setCell ⟨b, 4, none⟩ (.int .i64 now)).drewN nq) b [.int .i64 r, .int .i64 p, .int .i64 f, .int .i64 l, .int .i64 now] 54 ∧ Chg [b] w ((w.setCell ⟨b, 4, none⟩ (.int .i64 now)).drewN nq) from ⟨HB.out.set 4 _, ((Chg.refl _ _).setCell (by simp) _).drewN nq⟩)
    generalize (w.setCell ⟨b, 4, none⟩ (.int .i64 now)).drewN nq = w2 at *
    have f3' := HW.out.1.free 3
    have c3' := HW.out.1.cell 3 _ rfl
    have c0' := HW.out.1.cell 0 _ rfl
    clear c0 c2 c3 c4 f3 f4
    go_still_tail 11, (by kernel_rfl)
    change wpList _ _ _ _ _ w2.drew
    have HX := Lib.hid (show Blk w2.drew b [.int .i64 r, .int .i64 p, .int .i64 f, .int .i64 l, .int .i64 now] 54 ∧ Chg [b] w w2.drew from ⟨HW.out.1.kept rfl, HW.out.2.drew⟩)
    have f3'' := HX.out.1.free 3
    have c3'' := HX.out.1.cell 3 _ rfl
    clear f3' c3' c0'
    generalize w2.drew = w3 at *
    go_wp2
    go_end0
    exact ⟨rfl, HX.out.1.set 3 _, HX.out.2.setCell (by simp) _⟩
end Go.Proofs.Ytaknohobpapmeaa
