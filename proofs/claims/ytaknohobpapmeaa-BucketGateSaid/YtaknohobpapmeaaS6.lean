/- The walk of BucketGate. -/
import Derived.Test.YtaknohobpapmeaaS5
import Derived.Test.YtaknohobpapmeaaG
namespace Go.Proofs.Ytaknohobpapmeaa
open Go.RowKit
set_option linter.unusedVariables false
set_option maxHeartbeats 2000000 in
set_option maxRecDepth 100000 in
theorem bucketGate_walk (w : World) (m : Int) (wm : (Lit.int .i64 m).wf = true) (a : Option Addr) (n cap : Nat) (f : Nat → Bool) (hn : n ≤ 140737488351232) (hf : Bools w a n f) : Calls Try.prog 8 #[.int .i64 m, .slice a n cap] w fun e w' => e = .returned (.bool true) ∧ Below w.heap.size w w' := by
  have hm := wfI wm
  clear wm
  by_cases hb : m < 1 ∨ 1000 < m
  · have HB := Lib.hid hb
    rcases hb with hb | hb
    all_goals
      go_enter Try.func8, Try.ntmps8
      go_wp2_with (first | (go_at_call 22; (with_reducible refine (gated_bad m HB.out _).mono ?_); rintro e w' ⟨rfl, rfl⟩) | (go_at_call 11; (with_reducible refine (bspeaks _).mono ?_); rintro e w' ⟨rfl, hbel⟩))
      go_ret
      exact ⟨rfl, hbel⟩
  have m0 : 1 ≤ m := by omega
  have m1 : m ≤ 1000 := by omega
  clear hb
  have HF := Lib.hid hf
  clear hf
  go_enter Try.func8, Try.ntmps8
  go_wp2_with fail
  refine (gated_ok m w m0 m1).mono ?_
  rintro e w1 ⟨rfl, H1⟩
  go_wp2_with fail
  go_loopw [7, 38] (fun c i wr => ∃ (k : Nat) (z : Int), k ≤ n ∧ i = .int .i64 k ∧ c = .int .i64 z ∧ 0 ≤ z ∧ z ≤ m ∧ Hid (Blk wr w.heap.size [.int .i64 m, .int .i64 z] 59) ∧ Hid (Chg [] w wr)) (fun _ i _ => n - (intOf i).toNat)
  case atStart => exact ⟨0, 0, by omega, rfl, rfl, by omega, by omega, H1.out.1, H1.out.2⟩
  case round =>
    obtain ⟨k, z, hk, rfl, rfl, z0, z1, HB, HC⟩ := hrel
    by_cases hlt : k < n
    · obtain ⟨x, rfl, hx⟩ := HF.out (by omega)
      have hcell := HC.out.cell (hx k hlt) (by simp)
      clear hx
      have hcy : f k = true ∨ f k = false := by cases f k <;> simp
      generalize f k = y at *
      rcases hcy with rfl | rfl
      · by_cases hz : z = m
        · subst hz
          go_wp2_with fail
          (refine (enter_no w.heap.size z _ HB.out).mono ?_)
          rintro e w3 ⟨rfl, H⟩
          have HC3 := Lib.hid (HC.out.trans H.out.2 (by intro i hi hlt; simp at hi; omega))
          have HW := Lib.hid (within_any w.heap.size _ _ w3 H.out.1)
          go_wp2_with (first | (go_at_call 21; (with_reducible refine (HW.out).mono ?_); rintro e w' ⟨rfl, rfl⟩))
          go_roundw
          case rel => exact ⟨k + 1, z, by omega, by go_num, rfl, by omega, by omega, H.out.1, HC3⟩
          case measure => simp [intOf]; omega
        · have hne : (z == m) = false := beq_eq_false_iff_ne.2 hz
          have hzm : z < m := by omega
          clear hz
          go_wp2_with fail
          (refine (enter_yes w.heap.size m z _ HB.out z0 (by omega) hne).mono ?_)
          rintro e w3 ⟨rfl, H⟩
          have HC3 := Lib.hid (HC.out.trans H.out.2 (by intro i hi hlt; simp at hi; omega))
          have HW := Lib.hid (within_any w.heap.size _ _ w3 H.out.1)
          go_wp2_with (first | (go_at_call 21; (with_reducible refine (HW.out).mono ?_); rintro e w' ⟨rfl, rfl⟩))
          go_roundw
          case rel => exact ⟨k + 1, z + 1, by omega, by go_num, rfl, by omega, by omega, H.out.1, HC3⟩
          case measure => simp [intOf]; omega
      · by_cases hz : z = 0
        · subst hz
          go_wp2_with fail
          (refine (leave_no w.heap.size m _ HB.out).mono ?_)
          rintro e w3 ⟨rfl, H⟩
          have HC3 := Lib.hid (HC.out.trans H.out.2 (by intro i hi hlt; simp at hi; omega))
          have HW := Lib.hid (within_any w.heap.size _ _ w3 H.out.1)
          go_wp2_with (first | (go_at_call 21; (with_reducible refine (HW.out).mono ?_); rintro e w' ⟨rfl, rfl⟩))
          go_roundw
          case rel => exact ⟨k + 1, 0, by omega, by go_num, rfl, by omega, by omega, H.out.1, HC3⟩
          case measure => simp [intOf]; omega
        · have hz2 : 0 < z := by omega
          clear hz
          go_wp2_with fail
          (refine (leave_yes w.heap.size m z _ HB.out (by omega) (by omega)).mono ?_)
          rintro e w3 ⟨rfl, H⟩
          have HC3 := Lib.hid (HC.out.trans H.out.2 (by intro i hi hlt; simp at hi; omega))
          have HW := Lib.hid (within_any w.heap.size _ _ w3 H.out.1)
          go_wp2_with (first | (go_at_call 21; (with_reducible refine (HW.out).mono ?_); rintro e w' ⟨rfl, rfl⟩))
          go_roundw
          case rel => exact ⟨k + 1, z - 1, by omega, by go_num, rfl, by omega, by omega, H.out.1, HC3⟩
          case measure => simp [intOf]; omega
    · go_wp2_with (first | (go_at_call 11; (with_reducible refine (bspeaks _).mono ?_); rintro e w' ⟨rfl, hbel⟩))
      go_ret
      exact ⟨rfl, HC.out.below.trans (hbel.mono HC.out.size)⟩
end Go.Proofs.Ytaknohobpapmeaa
