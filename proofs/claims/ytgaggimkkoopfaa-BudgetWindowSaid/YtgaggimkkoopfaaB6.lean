/- A budget's methods: the rest. -/
import Derived.Test.YtgaggimkkoopfaaB5
namespace Go.Proofs.Ytgaggimkkoopfaa
open Go.RowKit
set_option linter.unusedVariables false
theorem badmit_nil (now : Int) (n0 : 0 ≤ now) (n1 : now ≤ 4611686018427387904) (w : World) : Calls Try.prog 30 #[.pointer none, .int .i64 now] w fun e w' => e = .returned (.int .i64 5) ∧ w = w' := by
  go_enter Try.func30, Try.ntmps30
  go_wp2_with (first | (go_at_call 34; (with_reducible refine (blate_nil now n0 n1 _).mono ?_); rintro e w' ⟨rfl, rfl⟩))
  go_ret
  exact ⟨rfl, rfl⟩
theorem badmit_bad (p : Option Addr) (now : Int) (hn : now < 0 ∨ 4611686018427387904 < now) (w : World) : Calls Try.prog 30 #[.pointer p, .int .i64 now] w fun e w' => e = .returned (.int .i64 1) ∧ w = w' := by
  go_enter Try.func30, Try.ntmps30
  go_wp2_with (first | (go_at_call 34; (with_reducible refine (blate_bad p now hn _).mono ?_); rintro e w' ⟨rfl, rfl⟩))
  go_ret
  exact ⟨rfl, rfl⟩
theorem ballow_nil (now : Int) (n0 : 0 ≤ now) (n1 : now ≤ 4611686018427387904) (w : World) : Calls Try.prog 32 #[.pointer none, .int .i64 now] w fun e w' => e = .returned (.tuple #[.bool false, .int .i64 0]) ∧ Chg [] w w' := by
  go_enter Try.func32, Try.ntmps32
  go_wp2_with (go_at_call 28; (with_reducible refine (bcan_nil now n0 n1 _).mono ?_); rintro e w' ⟨rfl, hc⟩)
  go_ret2
  exact ⟨rfl, hc⟩
theorem ballow_bad (p : Option Addr) (now : Int) (hn : now < 0 ∨ 4611686018427387904 < now) (w : World) : Calls Try.prog 32 #[.pointer p, .int .i64 now] w fun e w' => e = .returned (.tuple #[.bool false, .int .i64 1]) ∧ Chg [] w w' := by
  go_enter Try.func32, Try.ntmps32
  go_wp2_with (go_at_call 28; (with_reducible refine (bcan_bad p now hn _).mono ?_); rintro e w' ⟨rfl, hc⟩)
  go_ret2
  exact ⟨rfl, hc⟩
def NotTold (b : Nat) (p m win last : Int) (rq rt : List Int) (F : List Nat) (w : World) (e : Ending) (w' : World) : Prop :=
  e = .returned (.tuple #[.bool false, .int .i64 0]) ∧ BTi w' b p m win last rq rt F ∧ Chg [b] w w'
theorem ballow_no (b : Nat) (p m win last now L : Int) (rq rt : List Int) (F : List Nat) (w : World) (h : BSt w b p m win last rq rt F) (h0 : 0 ≤ last) (h1 : last ≤ 4611686018427387904) (n0 : 0 ≤ now) (n1 : now ≤ 4611686018427387904) (w0 : 0 ≤ win) (w1 : win ≤ 1000000) (hL : (L = now ∧ last < now) ∨ (L = last ∧ now ≤ last))
    (p0 : 0 ≤ p) (p1 : p ≤ 100) (hn : (lateL rq (L - win)).length ≤ 100000) (hy : canB p m (lateL rq (L - win)).length (lateL rt (L - win)).length = false) :
    Calls Try.prog 32 #[.pointer (some ⟨b, 0, none⟩), .int .i64 now] w (NotTold b p m win L (lateL rq (L - win)) (lateL rt (L - win)) F w) := by
  have K := Lib.hid (bcan_any b p m win last now L rq rt F w h h0 h1 n0 n1 w0 w1 hL p0 p1 hn)
  have HY := Lib.hid hy
  clear h hL hy
  go_enter Try.func32, Try.ntmps32
  go_wp2_with fail
  refine K.out.mono ?_
  rintro e w2 ⟨rfl, hb, hc⟩
  rw [HY.out]
  go_wp2_with fail
  go_ret2
  exact ⟨rfl, hb, hc⟩
theorem bnew_ok (p m win : Int) (w : World) (h : 0 ≤ p ∧ p ≤ 100 ∧ 0 ≤ m ∧ m ≤ 1000 ∧ 1 ≤ win ∧ win ≤ 1000000) :
    Calls Try.prog 26 #[.int .i64 p, .int .i64 m, .int .i64 win] w fun e w' => e = .returned (.tuple #[.pointer (some ⟨w.heap.size, 0, none⟩), .int .i64 0]) ∧ BSt w' w.heap.size p m win 0 [] [] [w.heap.size] ∧ Chg [] w w' := by
  obtain ⟨g1, g2, g3, g4, g5, g6⟩ := h
  go_enter Try.func26, Try.ntmps26
  go_wp2
  go_ret2
  refine ⟨rfl, ⟨by simp, by simp, _, _, Blk.new w [.int .i64 p, .int .i64 m, .int .i64 win, .int .i64 0, .slice none 0 0, .slice none 0 0] 68, (RoTi.nil _ _).1, (RoTi.nil _ _).1⟩, (Chg.refl _ _).alloc _⟩
theorem bnew_bad (p m win : Int) (w : World) (h : ¬ (0 ≤ p ∧ p ≤ 100 ∧ 0 ≤ m ∧ m ≤ 1000 ∧ 1 ≤ win ∧ win ≤ 1000000)) :
    Calls Try.prog 26 #[.int .i64 p, .int .i64 m, .int .i64 win] w fun e w' => e = .returned (.tuple #[.pointer none, .int .i64 1]) ∧ w = w' := by
  by_cases g1 : p < 0
  · clear h
    go_enter Try.func26, Try.ntmps26
    go_wp2
    go_ret2
    exact ⟨rfl, rfl⟩
  by_cases g2 : 100 < p
  · clear h
    go_enter Try.func26, Try.ntmps26
    go_wp2
    go_ret2
    exact ⟨rfl, rfl⟩
  by_cases g3 : m < 0
  · clear h
    go_enter Try.func26, Try.ntmps26
    go_wp2
    go_ret2
    exact ⟨rfl, rfl⟩
  by_cases g4 : 1000 < m
  · clear h
    go_enter Try.func26, Try.ntmps26
    go_wp2
    go_ret2
    exact ⟨rfl, rfl⟩
  by_cases g5 : win < 1
  · clear h
    go_enter Try.func26, Try.ntmps26
    go_wp2
    go_ret2
    exact ⟨rfl, rfl⟩
  have g6 : 1000000 < win := by omega
  clear h
  go_enter Try.func26, Try.ntmps26
  go_wp2
  go_ret2
  exact ⟨rfl, rfl⟩
end Go.Proofs.Ytgaggimkkoopfaa
