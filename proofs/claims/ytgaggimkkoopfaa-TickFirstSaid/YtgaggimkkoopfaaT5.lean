/- The walks of the laws of layer 1 (tick): each returns true, and leaves what was there alone. -/
import Derived.Test.YtgaggimkkoopfaaT4
namespace Go.Proofs.Ytgaggimkkoopfaa
open Go.RowKit
set_option linter.unusedVariables false

theorem wf64 {a : Int} (h : (Lit.int .i64 a).wf = true) : -9223372036854775808 ≤ a ∧ a ≤ 9223372036854775807 := by
  simp [Lit.wf, IntKind.min, IntKind.max, IntKind.signed, IntKind.bits] at h
  omega
theorem tlate_le (t d : Int) (h0 : 0 ≤ t) (h1 : t ≤ 4611686018427387904) (hd : 0 ≤ d) : t ≤ tlate t d ∧ tlate t d ≤ 4611686018427387904 := by
  unfold tlate
  split <;> omega

set_option maxHeartbeats 1000000 in
theorem tickAdds_walk (w : World) (a : Int) (wa : (Lit.int .i64 a).wf = true) (b : Int) (wb : (Lit.int .i64 b).wf = true) : Calls Try.prog 6 #[.int .i64 a, .int .i64 b] w fun e w' => e = .returned (.bool true) ∧ Below w.heap.size w w' := by
  have ha := wf64 wa
  have hb := wf64 wb
  clear wa wb
  by_cases h1 : 0 ≤ a ∧ a ≤ 4611686018427387904 <;> by_cases h2 : 0 ≤ b <;> by_cases h3 : b ≤ 4611686018427387904
  all_goals
    go_enter Try.func6, Try.ntmps6
    go_wp2_with (first | (go_at_call 16; (with_reducible refine (add_ok _ _ (by omega) (by omega) (by omega) (by omega) _).mono ?_); rintro e w' ⟨rfl, rfl⟩) | (go_at_call 16; (with_reducible refine (add_bad _ _ (by omega) _).mono ?_); rintro e w' ⟨rfl, rfl⟩) | (go_at_call 18; (with_reducible refine (radd_ok _ _ (by omega) (by omega) (by omega) (by omega) _).mono ?_); rintro e w' ⟨rfl, rfl⟩) | (go_at_call 18; (with_reducible refine (radd_bad _ _ (by omega) _).mono ?_); rintro e w' ⟨rfl, rfl⟩) | (go_at_call 20; (with_reducible refine (until_ok _ _ (by omega) (by omega) (by omega) (by omega) _).mono ?_); rintro e w' ⟨rfl, rfl⟩) | (go_at_call 20; (with_reducible refine (until_bad _ _ (by omega) _).mono ?_); rintro e w' ⟨rfl, rfl⟩) | (go_at_call 21; (with_reducible refine (runtil_ok _ _ (by omega) (by omega) (by omega) (by omega) _).mono ?_); rintro e w' ⟨rfl, rfl⟩) | (go_at_call 21; (with_reducible refine (runtil_bad _ _ (by omega) _).mono ?_); rintro e w' ⟨rfl, rfl⟩) | (go_at_call 22; (with_reducible refine (rmoment_yes _ (by omega) (by omega) _).mono ?_); rintro e w' ⟨rfl, rfl⟩) | (go_at_call 22; (with_reducible refine (rmoment_no _ (by omega) _).mono ?_); rintro e w' ⟨rfl, rfl⟩) | (go_at_call 15; (with_reducible refine (tspeaks _).mono ?_); rintro e w' ⟨rfl, hbel⟩))
    go_ret
    exact ⟨rfl, hbel⟩
set_option maxHeartbeats 1000000 in
theorem tickNil_walk (w : World) (d : Int) (wd : (Lit.int .i64 d).wf = true) : Calls Try.prog 5 #[.int .i64 d] w fun e w' => e = .returned (.bool true) ∧ Below w.heap.size w w' := by
  have hd := wf64 wd
  clear wd
  by_cases h2 : 0 ≤ d
  all_goals
    go_enter Try.func5, Try.ntmps5
    go_wp2_with (first | (go_at_call 16; (with_reducible refine (add_ok _ _ (by omega) (by omega) (by omega) (by omega) _).mono ?_); rintro e w' ⟨rfl, rfl⟩) | (go_at_call 16; (with_reducible refine (add_bad _ _ (by omega) _).mono ?_); rintro e w' ⟨rfl, rfl⟩) | (go_at_call 18; (with_reducible refine (radd_ok _ _ (by omega) (by omega) (by omega) (by omega) _).mono ?_); rintro e w' ⟨rfl, rfl⟩) | (go_at_call 18; (with_reducible refine (radd_bad _ _ (by omega) _).mono ?_); rintro e w' ⟨rfl, rfl⟩) | (go_at_call 20; (with_reducible refine (until_ok _ _ (by omega) (by omega) (by omega) (by omega) _).mono ?_); rintro e w' ⟨rfl, rfl⟩) | (go_at_call 20; (with_reducible refine (until_bad _ _ (by omega) _).mono ?_); rintro e w' ⟨rfl, rfl⟩) | (go_at_call 21; (with_reducible refine (runtil_ok _ _ (by omega) (by omega) (by omega) (by omega) _).mono ?_); rintro e w' ⟨rfl, rfl⟩) | (go_at_call 21; (with_reducible refine (runtil_bad _ _ (by omega) _).mono ?_); rintro e w' ⟨rfl, rfl⟩) | (go_at_call 22; (with_reducible refine (rmoment_yes _ (by omega) (by omega) _).mono ?_); rintro e w' ⟨rfl, rfl⟩) | (go_at_call 22; (with_reducible refine (rmoment_no _ (by omega) _).mono ?_); rintro e w' ⟨rfl, rfl⟩) | (go_at_call 15; (with_reducible refine (tspeaks _).mono ?_); rintro e w' ⟨rfl, hbel⟩) | (go_at_call 17; (with_reducible refine (adv_nil_ok _ _ (by omega) (by omega)).mono ?_); rintro e w' ⟨rfl, rfl⟩) | (go_at_call 17; (with_reducible refine (adv_nil_bad _ _ (by omega)).mono ?_); rintro e w' ⟨rfl, rfl⟩) | (go_at_call 19; (with_reducible refine (now_nil _).mono ?_); rintro e w' ⟨rfl, rfl⟩))
    go_ret
    exact ⟨rfl, hbel⟩
theorem tlate_tlate (t a b : Int) (h0 : 0 ≤ t) (h1 : t ≤ 4611686018427387904) (ha : 0 ≤ a) (hb : 0 ≤ b) : tlate (tlate t a) b = tlate t (a + b) := by
  unfold tlate
  split <;> split <;> (try split) <;> omega
set_option maxHeartbeats 1000000 in
theorem tickParts_walk (w : World) (t : Int) (wt : (Lit.int .i64 t).wf = true) (a : Int) (wa : (Lit.int .i64 a).wf = true) (b : Int) (wb : (Lit.int .i64 b).wf = true) : Calls Try.prog 4 #[.int .i64 t, .int .i64 a, .int .i64 b] w fun e w' => e = .returned (.bool true) ∧ Below w.heap.size w w' := by
  have ht := wf64 wt
  have ha := wf64 wa
  have hb := wf64 wb
  clear wt wa wb
  by_cases h1 : a < 0
  · go_enter Try.func4, Try.ntmps4
    go_wp2_with ((go_at_call 15; (with_reducible refine (tspeaks _).mono ?_); rintro e w' ⟨rfl, hbel⟩))
    go_ret
    exact ⟨rfl, hbel⟩
  by_cases h2 : b < 0
  · go_enter Try.func4, Try.ntmps4
    go_wp2_with ((go_at_call 15; (with_reducible refine (tspeaks _).mono ?_); rintro e w' ⟨rfl, hbel⟩))
    go_ret
    exact ⟨rfl, hbel⟩
  by_cases h3 : 9223372036854775807 < a + b
  · have h4 : wrap64 (a + b) < 0 := by unfold wrap64; omega
    go_enter Try.func4, Try.ntmps4
    go_wp2_with ((go_at_call 15; (with_reducible refine (tspeaks _).mono ?_); rintro e w' ⟨rfl, hbel⟩))
    go_ret
    exact ⟨rfl, hbel⟩
  by_cases h4 : t < 0 ∨ 4611686018427387904 < t
  · go_enter Try.func4, Try.ntmps4
    go_wp2_with (first | (go_at_call 16; (with_reducible refine (add_bad _ _ (by omega) _).mono ?_); rintro e w' ⟨rfl, rfl⟩) | (go_at_call 15; (with_reducible refine (tspeaks _).mono ?_); rintro e w' ⟨rfl, hbel⟩))
    go_ret
    exact ⟨rfl, hbel⟩
  have h5 : 0 ≤ t := by omega
  have h6 : t ≤ 4611686018427387904 := by omega
  clear h4
  obtain ⟨g1, g2⟩ := tlate_le t a h5 h6 (by omega)
  have C1 := Lib.hid (fun w => add_ok t a h5 h6 (by omega) (by omega) w)
  have c2 := fun w => add_ok (tlate t a) b (by omega) g2 (by omega) (by omega) w
  have g3 := (tlate_le (tlate t a) b (by omega) g2 (by omega)).1
  rw [tlate_tlate t a b h5 h6 (by omega) (by omega)] at c2 g3
  have C2 := Lib.hid c2
  have C3 := Lib.hid (fun w => add_ok t (a + b) h5 h6 (by omega) (by omega) w)
  clear c2
  go_enter Try.func4, Try.ntmps4
  go_wp2_with (first | (go_at_call 16; (with_reducible refine (C1.out _).mono ?_); rintro e w' ⟨rfl, rfl⟩) | (go_at_call 16; (with_reducible refine (C2.out _).mono ?_); rintro e w' ⟨rfl, rfl⟩) | (go_at_call 16; (with_reducible refine (C3.out _).mono ?_); rintro e w' ⟨rfl, rfl⟩) | (go_at_call 15; (with_reducible refine (tspeaks _).mono ?_); rintro e w' ⟨rfl, hbel⟩))
  go_ret
  exact ⟨rfl, hbel⟩
set_option maxHeartbeats 1000000 in
theorem tickOrder_walk (w : World) (a : Int) (wa : (Lit.int .i64 a).wf = true) (b : Int) (wb : (Lit.int .i64 b).wf = true) (d : Int) (wd : (Lit.int .i64 d).wf = true) : Calls Try.prog 7 #[.int .i64 a, .int .i64 b, .int .i64 d] w fun e w' => e = .returned (.bool true) ∧ Below w.heap.size w w' := by
  have ha := wf64 wa
  have hb := wf64 wb
  have hd := wf64 wd
  clear wa wb wd
  by_cases h1 : a < 0 ∨ 4611686018427387904 < a
  · go_enter Try.func7, Try.ntmps7
    go_wp2_with (first | (go_at_call 22; (with_reducible refine (rmoment_no a h1 _).mono ?_); rintro e w' ⟨rfl, rfl⟩) | (go_at_call 15; (with_reducible refine (tspeaks _).mono ?_); rintro e w' ⟨rfl, hbel⟩))
    go_ret
    exact ⟨rfl, hbel⟩
  have a0 : 0 ≤ a := by omega
  have a1 : a ≤ 4611686018427387904 := by omega
  clear h1
  by_cases h1 : b < 0 ∨ 4611686018427387904 < b
  · go_enter Try.func7, Try.ntmps7
    go_wp2_with (first | (go_at_call 22; (with_reducible refine (rmoment_yes a a0 a1 _).mono ?_); rintro e w' ⟨rfl, rfl⟩) | (go_at_call 22; (with_reducible refine (rmoment_no b h1 _).mono ?_); rintro e w' ⟨rfl, rfl⟩) | (go_at_call 15; (with_reducible refine (tspeaks _).mono ?_); rintro e w' ⟨rfl, hbel⟩))
    go_ret
    exact ⟨rfl, hbel⟩
  have b0 : 0 ≤ b := by omega
  have b1 : b ≤ 4611686018427387904 := by omega
  clear h1
  by_cases h1 : d < 0
  · go_enter Try.func7, Try.ntmps7
    go_wp2_with (first | (go_at_call 22; (with_reducible refine (rmoment_yes a a0 a1 _).mono ?_); rintro e w' ⟨rfl, rfl⟩) | (go_at_call 22; (with_reducible refine (rmoment_yes b b0 b1 _).mono ?_); rintro e w' ⟨rfl, rfl⟩) | (go_at_call 15; (with_reducible refine (tspeaks _).mono ?_); rintro e w' ⟨rfl, hbel⟩))
    go_ret
    exact ⟨rfl, hbel⟩
  have C1 := Lib.hid (fun w => add_ok a d a0 a1 (by omega) (by omega) w)
  have C2 := Lib.hid (fun w => add_ok b d b0 b1 (by omega) (by omega) w)
  by_cases h2 : a ≤ b
  · have c3 := fun w => until_ok a b a0 a1 b0 b1 w
    have c4 := fun w => add_ok a (b - a) a0 a1 (by omega) (by omega) w
    have e3 : tuntil a b = b - a := by unfold tuntil; rw [if_neg (by omega)]
    have e4 : tlate a (b - a) = b := by unfold tlate; rw [if_neg (by omega)]; omega
    have g : tlate a d ≤ tlate b d := by unfold tlate; split <;> split <;> omega
    rw [e3] at c3
    rw [e4] at c4
    have C3 := Lib.hid c3
    have C4 := Lib.hid c4
    clear c3 c4 e3 e4
    go_enter Try.func7, Try.ntmps7
    go_wp2_with (first | (go_at_call 22; (with_reducible refine (rmoment_yes a a0 a1 _).mono ?_); rintro e w' ⟨rfl, rfl⟩) | (go_at_call 22; (with_reducible refine (rmoment_yes b b0 b1 _).mono ?_); rintro e w' ⟨rfl, rfl⟩) | (go_at_call 16; (with_reducible refine (C1.out _).mono ?_); rintro e w' ⟨rfl, rfl⟩) | (go_at_call 16; (with_reducible refine (C2.out _).mono ?_); rintro e w' ⟨rfl, rfl⟩) | (go_at_call 20; (with_reducible refine (C3.out _).mono ?_); rintro e w' ⟨rfl, rfl⟩) | (go_at_call 16; (with_reducible refine (C4.out _).mono ?_); rintro e w' ⟨rfl, rfl⟩) | (go_at_call 15; (with_reducible refine (tspeaks _).mono ?_); rintro e w' ⟨rfl, hbel⟩))
    go_ret
    exact ⟨rfl, hbel⟩
  · have c3 := fun w => until_ok a b a0 a1 b0 b1 w
    have c4 := fun w => add_ok a 0 a0 a1 (by omega) (by omega) w
    have e3 : tuntil a b = 0 := by unfold tuntil; rw [if_pos (by omega)]
    have e4 : tlate a 0 = a := by unfold tlate; rw [if_neg (by omega)]; omega
    rw [e3] at c3
    rw [e4] at c4
    have C3 := Lib.hid c3
    have C4 := Lib.hid c4
    clear c3 c4 e3 e4
    go_enter Try.func7, Try.ntmps7
    go_wp2_with (first | (go_at_call 22; (with_reducible refine (rmoment_yes a a0 a1 _).mono ?_); rintro e w' ⟨rfl, rfl⟩) | (go_at_call 22; (with_reducible refine (rmoment_yes b b0 b1 _).mono ?_); rintro e w' ⟨rfl, rfl⟩) | (go_at_call 16; (with_reducible refine (C1.out _).mono ?_); rintro e w' ⟨rfl, rfl⟩) | (go_at_call 16; (with_reducible refine (C2.out _).mono ?_); rintro e w' ⟨rfl, rfl⟩) | (go_at_call 20; (with_reducible refine (C3.out _).mono ?_); rintro e w' ⟨rfl, rfl⟩) | (go_at_call 16; (with_reducible refine (C4.out _).mono ?_); rintro e w' ⟨rfl, rfl⟩) | (go_at_call 15; (with_reducible refine (tspeaks _).mono ?_); rintro e w' ⟨rfl, hbel⟩))
    go_ret
    exact ⟨rfl, hbel⟩
set_option maxHeartbeats 1000000 in
theorem tickFirst_walk (w : World) (a : Option Addr) (n cap : Nat) (zs : List Int) (hr : n * 8 ≤ 140737488351232) (hn : n ≤ 9223372036854775807) (hwf : ∀ n ∈ zs, (Lit.int .i64 n).wf = true) (hs : Ints w .i64 a n zs) : Calls Try.prog 3 #[.slice a n cap] w fun e w' => e = .returned (.bool true) ∧ Below w.heap.size w w' := by
  have C1 := Lib.hid (first_any a n cap zs w hs hn)
  have C2 := Lib.hid (rfirst_any a n cap zs w hs hn)
  clear hs hwf
  go_enter Try.func3, Try.ntmps3
  go_wp2_with (first | (go_at_call 13; (with_reducible refine (C1.out).mono ?_); rintro e w' ⟨rfl, rfl⟩) | (go_at_call 14; (with_reducible refine (C2.out).mono ?_); rintro e w' ⟨rfl, rfl⟩) | (go_at_call 15; (with_reducible refine (tspeaks _).mono ?_); rintro e w' ⟨rfl, hbel⟩))
  go_ret
  exact ⟨rfl, hbel⟩
theorem Ints.chg {F : List Nat} {w w' : World} {k : IntKind} {a : Option Addr} {n : Nat} {zs : List Int} (h : Ints w k a n zs) (hc : Chg F w w') (hF : ∀ i, i ∈ F → w.heap.size ≤ i) : Ints w' k a n zs := by
  refine ⟨h.1, fun hn => ?_⟩
  obtain ⟨x, hx, hcell⟩ := h.2 hn
  refine ⟨x, hx, fun i hi => ?_⟩
  have := hcell i hi
  refine hc.cell this (fun hm => ?_)
  have h1 := World.block_lt_of_cell? w _ this
  have := hF _ hm
  omega
set_option maxRecDepth 100000 in
set_option maxHeartbeats 2000000 in
theorem tickClock_walk (w : World) (t : Int) (wt : (Lit.int .i64 t).wf = true) (a : Option Addr) (n cap : Nat) (zs : List Int) (hr : n * 8 ≤ 140737488351232) (hn : n ≤ 9223372036854775807) (hwf : ∀ n ∈ zs, (Lit.int .i64 n).wf = true) (hs : Ints w .i64 a n zs) : Calls Try.prog 8 #[.int .i64 t, .slice a n cap] w fun e w' => e = .returned (.bool true) ∧ Below w.heap.size w w' := by
  have ht := wf64 wt
  clear wt
  by_cases h1 : t < 0 ∨ 4611686018427387904 < t
  · go_enter Try.func8, Try.ntmps8
    go_wp2_with (first | (go_at_call 23; (with_reducible refine (new_bad t h1 _).mono ?_); rintro e w' ⟨rfl, rfl⟩) | (go_at_call 22; (with_reducible refine (rmoment_no t h1 _).mono ?_); rintro e w' ⟨rfl, rfl⟩) | (go_at_call 15; (with_reducible refine (tspeaks _).mono ?_); rintro e w' ⟨rfl, hbel⟩))
    go_ret
    exact ⟨rfl, hbel⟩
  have t0 : 0 ≤ t := by omega
  have t1 : t ≤ 4611686018427387904 := by omega
  clear h1
  have HS := Lib.hid hs
  have HW := Lib.hid hwf
  clear hs hwf
  go_enter Try.func8, Try.ntmps8
  go_wp2_with (first | (go_at_call 23; (with_reducible refine (new_ok t t0 t1 _).mono ?_); rintro e w' ⟨rfl, rfl⟩) | (go_at_call 22; (with_reducible refine (rmoment_yes t t0 t1 _).mono ?_); rintro e w' ⟨rfl, rfl⟩))
  go_loopw [7, 45] (fun now i wr => ∃ (k : Nat) (s : Int), k ≤ n ∧ i = .int .i64 k ∧ now = .int .i64 s ∧ 0 ≤ s ∧ s ≤ 4611686018427387904 ∧ Hid (Blk wr w.heap.size [.int .i64 s] 66) ∧ Hid (Chg [] w wr)) (fun _ i _ => n - (intOf i).toNat)
  case atStart => exact ⟨0, t, by omega, rfl, rfl, t0, t1, Lib.hid (Blk.new w [.int .i64 t] 66), Lib.hid ((Chg.refl [] w).alloc _)⟩
  case round =>
    obtain ⟨k, s, hk, rfl, rfl, s0, s1, HB, HC⟩ := hrel
    by_cases hlt : k < n
    · obtain ⟨x, rfl, hx⟩ := (HS.out.chg HC.out (by simp)).2 (by omega)
      have hcell := hx k hlt
      clear hx
      have hz := wf64 (HW.out (zs.getD k 0) (by rw [List.getD_eq_getElem?_getD, List.getElem?_eq_getElem (by have := HS.out.1; omega)]; simp))
      generalize zs.getD k 0 = d at *
      by_cases hd : d < 0
      · go_wp2_with (first | (go_at_call 17; (with_reducible refine (adv_bad w.heap.size s d _ HB.out hd).mono ?_); rintro e w' ⟨rfl, rfl⟩) | (go_at_call 18; (with_reducible refine (radd_bad s d (by omega) _).mono ?_); rintro e w' ⟨rfl, rfl⟩) | (go_at_call 24; (with_reducible refine (since_bad w.heap.size s d _ HB.out (.inl hd)).mono ?_); rintro e w' ⟨rfl, rfl⟩) | (go_at_call 21; (with_reducible refine (runtil_bad d s (by omega) _).mono ?_); rintro e w' ⟨rfl, rfl⟩) | (go_at_call 19; (with_reducible refine (now_any w.heap.size s _ HB.out).mono ?_); rintro e w' ⟨rfl, rfl⟩))
        go_roundw
        case rel => exact ⟨k + 1, s, by omega, by go_num, rfl, s0, s1, HB, HC⟩
        case measure => simp [intOf]; omega
      · have hd0 : 0 ≤ d := by omega
        clear hd
        obtain ⟨g1, g2⟩ := tlate_le s d s0 s1 hd0
        have C1 := Lib.hid (fun w => radd_ok s d s0 s1 hd0 hz.2 w)
        by_cases hd1 : 4611686018427387904 < d
        all_goals
          go_wp2_with fail
          refine (adv_ok w.heap.size s d _ HB.out s0 s1 hd0 (by omega)).mono ?_
          rintro e w1 ⟨rfl, hb1, hc1⟩
          have HB1 := Lib.hid hb1
          have HC1 := Lib.hid (HC.out.trans hc1 (by intro i hi hlt; simp at hi; omega))
          clear hb1 hc1
          first
            | (have C2 := Lib.hid (since_ok w.heap.size (tlate s d) d w1 HB1.out hd0 (by omega) (by omega) g2)
               have C3 := Lib.hid (fun w => runtil_ok d (tlate s d) hd0 (by omega) (by omega) g2 w))
            | (have C2 := Lib.hid (since_bad w.heap.size (tlate s d) d w1 HB1.out (.inr hd1))
               have C3 := Lib.hid (fun w => runtil_bad d (tlate s d) (by omega) w))
          go_wp2_with (first | (go_at_call 18; (with_reducible refine (C1.out _).mono ?_); rintro e w' ⟨rfl, rfl⟩) | (go_at_call 24; (with_reducible refine (C2.out).mono ?_); rintro e w' ⟨rfl, rfl⟩) | (go_at_call 21; (with_reducible refine (C3.out _).mono ?_); rintro e w' ⟨rfl, rfl⟩) | (go_at_call 19; (with_reducible refine (now_any w.heap.size (tlate s d) _ HB1.out).mono ?_); rintro e w' ⟨rfl, rfl⟩))
          go_roundw
          case rel => exact ⟨k + 1, tlate s d, by omega, by go_num, rfl, by omega, g2, HB1, HC1⟩
          case measure => simp [intOf]; omega
    · go_wp2_with (first | (go_at_call 19; (with_reducible refine (now_any w.heap.size s _ HB.out).mono ?_); rintro e w' ⟨rfl, rfl⟩) | (go_at_call 15; (with_reducible refine (tspeaks _).mono ?_); rintro e w' ⟨rfl, hbel⟩))
      go_ret
      have hsz := HC.out.size
      exact ⟨rfl, HC.out.below.trans (hbel.mono hsz)⟩
end Go.Proofs.Ytgaggimkkoopfaa
