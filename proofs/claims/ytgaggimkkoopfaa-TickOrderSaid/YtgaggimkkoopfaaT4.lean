/- The law's own small cases (speaks): they come out true, and leave what was there alone. -/
import Derived.Test.YtgaggimkkoopfaaT3
namespace Go.Proofs.Ytgaggimkkoopfaa
open Go.RowKit

set_option maxHeartbeats 1000000 in
theorem tspeaks (w : World) : Calls Try.prog 15 #[] w fun e w' => e = .returned (.bool true) ∧ Below w.heap.size w w' := by
  have c1 : ∀ w, Calls Try.prog 16 #[.int .i64 5, .int .i64 3] w fun e w' => e = .returned (.tuple #[.int .i64 8, .int .i64 0]) ∧ w = w' := fun w => add_ok 5 3 (by omega) (by omega) (by omega) (by omega) w
  have c2 : ∀ w, Calls Try.prog 16 #[.int .i64 4611686018427387903, .int .i64 5] w fun e w' => e = .returned (.tuple #[.int .i64 4611686018427387904, .int .i64 0]) ∧ w = w' := fun w => add_ok 4611686018427387903 5 (by omega) (by omega) (by omega) (by omega) w
  have hfirst : Ints (w.alloc (Obj.cells #[.int .i64 (-1), .int .i64 7, .int .i64 5] 3)) .i64 (some ⟨w.heap.size, 0, none⟩) 3 [-1, 7, 5] := by
    refine ⟨rfl, fun _ => ⟨_, rfl, fun i hi => ?_⟩⟩
    have hb := Blk.new w [.int .i64 (-1), .int .i64 7, .int .i64 5] 3
    rcases i with _ | _ | _ | i
    · exact hb.cell 0 _ rfl
    · exact hb.cell 1 _ rfl
    · exact hb.cell 2 _ rfl
    · omega
  have c3 := first_any (some ⟨w.heap.size, 0, none⟩) 3 3 [-1, 7, 5] _ hfirst (by omega)
  have e3 : firstOf [-1, 7, 5] = (5, true) := by decide
  rw [e3] at c3
  have C1 := Lib.hid c1
  have C2 := Lib.hid c2
  have C3 := Lib.hid c3
  clear c1 c2 c3 e3 hfirst
  go_enter Try.func15, Try.ntmps15
  go_wp2_with (first | (go_at_call 16; (with_reducible refine (C1.out _).mono ?_); rintro e w' ⟨rfl, rfl⟩) | (go_at_call 16; (with_reducible refine (C2.out _).mono ?_); rintro e w' ⟨rfl, rfl⟩) | (go_at_call 13; (with_reducible refine (C3.out).mono ?_); rintro e w' ⟨rfl, rfl⟩) | (go_at_call 23; (with_reducible refine (new_ok 2 (by omega) (by omega) _).mono ?_); rintro e w' ⟨rfl, rfl⟩))
  have hb : Blk ((w.alloc (Obj.cells #[.int .i64 (-1), .int .i64 7, .int .i64 5] 3)).alloc (Obj.cells #[.int .i64 2] 66)) (w.heap.size + 1) [.int .i64 2] 66 := by simpa using Blk.new (w.alloc (Obj.cells #[.int .i64 (-1), .int .i64 7, .int .i64 5] 3)) [.int .i64 2] 66
  have HB := Lib.hid hb
  clear hb
  refine (adv_ok (w.heap.size + 1) 2 4 _ HB.out (by omega) (by omega) (by omega) (by omega)).mono ?_
  rintro e w3 ⟨rfl, hb3, hc3⟩
  have HB3 := Lib.hid hb3
  have HC3 := Lib.hid hc3
  clear hb3 hc3
  have e4 : tlate 2 4 = 6 := by decide
  rw [e4] at HB3 ⊢
  clear e4
  go_wp2_with ((go_at_call 19; (with_reducible refine (now_any (w.heap.size + 1) 6 _ HB3.out).mono ?_); rintro e w' ⟨rfl, rfl⟩))
  go_ret
  refine ⟨rfl, Chg.below ?_⟩
  exact (((Chg.refl [] w).alloc _).alloc _).trans HC3.out (by intro i hi hlt; simp at hi; omega)
end Go.Proofs.Ytgaggimkkoopfaa
