/- The law's own small case (speaks of layer 15), and the law on nil. -/
import Derived.Test.YtaknohobpapmeaaS4
namespace Go.Proofs.Ytaknohobpapmeaa
open Go.RowKit
set_option linter.unusedVariables false

theorem wfI {a : Int} (h : (Lit.int .i64 a).wf = true) : -9223372036854775808 ≤ a ∧ a ≤ 9223372036854775807 := by
  simp [Lit.wf, IntKind.min, IntKind.max, IntKind.signed, IntKind.bits] at h
  omega
set_option maxHeartbeats 2000000 in
set_option maxRecDepth 100000 in
theorem bspeaks (w : World) : Calls Try.prog 11 #[] w fun e w' => e = .returned (.bool true) ∧ Below w.heap.size w w' := by
  have N1 : Num 1 10 20 20 0 := ⟨by omega, by omega, by omega, by omega, by omega, by omega, by omega, by omega, by omega, by omega⟩
  have N2 : Num 1 10 20 10 0 := ⟨by omega, by omega, by omega, by omega, by omega, by omega, by omega, by omega, by omega, by omega⟩
  have N3 : Num 1 10 20 0 0 := ⟨by omega, by omega, by omega, by omega, by omega, by omega, by omega, by omega, by omega, by omega⟩
  have N4 : Num 1 10 20 9 9 := ⟨by omega, by omega, by omega, by omega, by omega, by omega, by omega, by omega, by omega, by omega⟩
  go_enter Try.func11, Try.ntmps11
  go_wp2_with fail
  refine (new_ok 1 10 2 0 w (by unfold Good; omega)).mono ?_
  rintro e w1 ⟨rfl, H1⟩
  go_wp2_with fail
  refine (take_yes w.heap.size 1 10 20 20 0 0 20 0 w1 H1.out.1 N1 (by omega) (by omega) (by decide) (by decide) (by decide)).mono ?_
  rintro e w2 ⟨rfl, H2⟩
  go_wp2_with fail
  refine (take_yes w.heap.size 1 10 20 10 0 0 10 0 w2 H2.out.1 N2 (by omega) (by omega) (by decide) (by decide) (by decide)).mono ?_
  rintro e w3 ⟨rfl, H3⟩
  go_wp2_with fail
  refine (take_no w.heap.size 1 10 20 0 0 9 9 9 w3 H3.out.1 N3 (by omega) (by omega) (by decide) (by decide) (by decide)).mono ?_
  rintro e w4 ⟨rfl, H4⟩
  go_wp2_with fail
  refine (next_any w.heap.size 1 10 20 9 9 w4 H4.out.1 N4 10 true (by decide)).mono ?_
  rintro e w5 ⟨rfl, H5⟩
  go_wp2_with fail
  refine (take_yes w.heap.size 1 10 20 9 9 10 10 10 w5 (H4.out.1.chg H5.out (by simp)) N4 (by omega) (by omega) (by decide) (by decide) (by decide)).mono ?_
  rintro e w6 ⟨rfl, H6⟩
  go_wp2_with fail
  go_ret
  have k1 := H1.out.2
  have k2 := H2.out.2
  have k3 := H3.out.2
  have k4 := H4.out.2
  have k6 := H6.out.2
  exact ⟨rfl, (((((k1.trans k2 (by simp)).trans k3 (by simp)).trans k4 (by simp)).trans H5.out (by simp)).trans k6 (by simp)).below⟩
theorem enter_nil (w : World) : Calls Try.prog 19 #[.pointer none] w fun e w' => e = .returned (.bool false) ∧ Hid (Chg [] w w') := by
  go_enter Try.func19, Try.ntmps19
  go_wp2
  go_quiet (fail)
  go_wp2
  go_ret
  exact ⟨rfl, (Chg.refl _ _).drewN _⟩
theorem leave_nil (w : World) : Calls Try.prog 20 #[.pointer none] w fun e w' => e = .returned (.bool false) ∧ w = w' := by
  go_enter Try.func20, Try.ntmps20
  go_wp2
  go_ret
  exact ⟨rfl, rfl⟩
theorem within_nil (w : World) : Calls Try.prog 21 #[.pointer none] w fun e w' => e = .returned (.int .i64 0) ∧ w = w' := by
  go_enter Try.func21, Try.ntmps21
  go_wp2
  go_ret
  exact ⟨rfl, rfl⟩
set_option maxHeartbeats 1000000 in
theorem bucketNil_walk (w : World) (now : Int) (wn : (Lit.int .i64 now).wf = true) : Calls Try.prog 7 #[.int .i64 now] w fun e w' => e = .returned (.bool true) ∧ Below w.heap.size w w' := by
  have hn := wfI wn
  clear wn
  by_cases h : now < 0 ∨ 4611686018427387904 < now
  · go_enter Try.func7, Try.ntmps7
    go_wp2_with (first | (go_at_call 14; (with_reducible refine (take_bad none now h _).mono ?_); rintro e w' ⟨rfl, rfl⟩) | (go_at_call 12; (with_reducible refine (tok_bad none now h _).mono ?_); rintro e w' ⟨rfl, rfl⟩) | (go_at_call 16; (with_reducible refine (next_nil _).mono ?_); rintro e w' ⟨rfl, rfl⟩) | (go_at_call 18; (with_reducible refine (rmoment_no now h _).mono ?_); rintro e w' ⟨rfl, rfl⟩) | (go_at_call 19; (with_reducible refine (enter_nil _).mono ?_); rintro e w' ⟨rfl, hc⟩) | (go_at_call 20; (with_reducible refine (leave_nil _).mono ?_); rintro e w' ⟨rfl, rfl⟩) | (go_at_call 21; (with_reducible refine (within_nil _).mono ?_); rintro e w' ⟨rfl, rfl⟩) | (go_at_call 11; (with_reducible refine (bspeaks _).mono ?_); rintro e w' ⟨rfl, hbel⟩))
    go_ret
    exact ⟨rfl, hc.out.below.trans (hbel.mono hc.out.size)⟩
  · have h0 : 0 ≤ now := by omega
    have h1 : now ≤ 4611686018427387904 := by omega
    clear h
    go_enter Try.func7, Try.ntmps7
    go_wp2_with (first | (go_at_call 14; (with_reducible refine (take_nil now h0 h1 _).mono ?_); rintro e w' ⟨rfl, rfl⟩) | (go_at_call 12; (with_reducible refine (tok_nil now h0 h1 _).mono ?_); rintro e w' ⟨rfl, rfl⟩) | (go_at_call 16; (with_reducible refine (next_nil _).mono ?_); rintro e w' ⟨rfl, rfl⟩) | (go_at_call 18; (with_reducible refine (rmoment_yes now h0 h1 _).mono ?_); rintro e w' ⟨rfl, rfl⟩) | (go_at_call 19; (with_reducible refine (enter_nil _).mono ?_); rintro e w' ⟨rfl, hc⟩) | (go_at_call 20; (with_reducible refine (leave_nil _).mono ?_); rintro e w' ⟨rfl, rfl⟩) | (go_at_call 21; (with_reducible refine (within_nil _).mono ?_); rintro e w' ⟨rfl, rfl⟩) | (go_at_call 11; (with_reducible refine (bspeaks _).mono ?_); rintro e w' ⟨rfl, hbel⟩))
    go_ret
    exact ⟨rfl, hc.out.below.trans (hbel.mono hc.out.size)⟩
/-- A gate at block b: its bound, and how many are within. -/
theorem enter_yes (b : Nat) (m n : Int) (w : World) (h : Blk w b [.int .i64 m, .int .i64 n] 59) (n0 : 0 ≤ n) (n1 : n ≤ 1000) (hne : (n == m) = false) :
    Calls Try.prog 19 #[.pointer (some ⟨b, 0, none⟩)] w fun e w' => e = .returned (.bool true) ∧ Hid (Blk w' b [.int .i64 m, .int .i64 (n + 1)] 59 ∧ Chg [b] w w') := by
  have c0 := h.cell 0 _ rfl
  have c1 := h.cell 1 _ rfl
  go_enter Try.func19, Try.ntmps19
  go_wp2
  go_quiet (fail)
  have HW := Lib.hid (show Blk (w.drewN nq) b [.int .i64 m, .int .i64 n] 59 ∧ Chg [b] w (w.drewN nq) from ⟨h.drewN nq, (Chg.refl _ _).drewN nq⟩)
  clear c0 c1 h
  generalize w.drewN nq = w2 at *
  have c1 := HW.out.1.cell 1 _ rfl
  have f1 := HW.out.1.free 1
  go_wp2
  go_ret
  exact ⟨rfl, HW.out.1.set 1 _, HW.out.2.setCell (by simp) _⟩
theorem enter_no (b : Nat) (m : Int) (w : World) (h : Blk w b [.int .i64 m, .int .i64 m] 59) :
    Calls Try.prog 19 #[.pointer (some ⟨b, 0, none⟩)] w fun e w' => e = .returned (.bool false) ∧ Hid (Blk w' b [.int .i64 m, .int .i64 m] 59 ∧ Chg [b] w w') := by
  have c0 := h.cell 0 _ rfl
  have c1 := h.cell 1 _ rfl
  go_enter Try.func19, Try.ntmps19
  go_wp2
  go_quiet (fail)
  go_wp2
  go_ret
  exact ⟨rfl, h.drewN _, (Chg.refl _ _).drewN _⟩
theorem leave_yes (b : Nat) (m n : Int) (w : World) (h : Blk w b [.int .i64 m, .int .i64 n] 59) (n0 : 1 ≤ n) (n1 : n ≤ 1000) :
    Calls Try.prog 20 #[.pointer (some ⟨b, 0, none⟩)] w fun e w' => e = .returned (.bool true) ∧ Hid (Blk w' b [.int .i64 m, .int .i64 (n - 1)] 59 ∧ Chg [b] w w') := by
  have c1 := h.cell 1 _ rfl
  have f1 := h.free 1
  have hz : (n == 0) = false := beq_eq_false_iff_ne.2 (by omega)
  go_enter Try.func20, Try.ntmps20
  go_wp2
  go_ret
  exact ⟨rfl, h.set 1 _, (Chg.refl _ _).setCell (by simp) _⟩
theorem leave_no (b : Nat) (m : Int) (w : World) (h : Blk w b [.int .i64 m, .int .i64 0] 59) :
    Calls Try.prog 20 #[.pointer (some ⟨b, 0, none⟩)] w fun e w' => e = .returned (.bool false) ∧ Hid (Blk w' b [.int .i64 m, .int .i64 0] 59 ∧ Chg [b] w w') := by
  have c1 := h.cell 1 _ rfl
  go_enter Try.func20, Try.ntmps20
  go_wp2
  go_ret
  exact ⟨rfl, h, Chg.refl _ _⟩
theorem within_any (b : Nat) (m n : Int) (w : World) (h : Blk w b [.int .i64 m, .int .i64 n] 59) : Calls Try.prog 21 #[.pointer (some ⟨b, 0, none⟩)] w fun e w' => e = .returned (.int .i64 n) ∧ w = w' := by
  have c1 := h.cell 1 _ rfl
  go_enter Try.func21, Try.ntmps21
  go_wp2
  go_ret
  exact ⟨rfl, rfl⟩
theorem gated_ok (m : Int) (w : World) (h0 : 1 ≤ m) (h1 : m ≤ 1000) :
    Calls Try.prog 22 #[.int .i64 m] w fun e w' => e = .returned (.tuple #[.pointer (some ⟨w.heap.size, 0, none⟩), .int .i64 0]) ∧ Hid (Blk w' w.heap.size [.int .i64 m, .int .i64 0] 59 ∧ Chg [] w w') := by
  go_enter Try.func22, Try.ntmps22
  go_wp2
  go_ret2
  exact ⟨rfl, Blk.new w [.int .i64 m, .int .i64 0] 59, (Chg.refl _ _).alloc _⟩
theorem gated_bad (m : Int) (h : m < 1 ∨ 1000 < m) (w : World) : Calls Try.prog 22 #[.int .i64 m] w fun e w' => e = .returned (.tuple #[.pointer none, .int .i64 1]) ∧ w = w' := by
  rcases h with h | h
  all_goals
    go_enter Try.func22, Try.ntmps22
    go_wp2
    go_ret2
    exact ⟨rfl, rfl⟩
end Go.Proofs.Ytaknohobpapmeaa
