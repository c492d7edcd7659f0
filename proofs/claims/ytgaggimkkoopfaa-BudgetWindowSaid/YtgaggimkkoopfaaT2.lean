/- Contracts of a clock's methods, of the least of all moments (program and reference), and of the law's small cases. -/
import Derived.Test.YtgaggimkkoopfaaT1
import Derived.Test.YtgaggimkkoopfaaK
namespace Go.Proofs.Ytgaggimkkoopfaa
open Go.RowKit

theorem new_ok (t : Int) (h : 0 ≤ t) (h' : t ≤ 4611686018427387904) (w : World) : Calls Try.prog 23 #[.int .i64 t] w fun e w' => e = .returned (.tuple #[.pointer (some ⟨w.heap.size, 0, none⟩), .int .i64 0]) ∧ w' = w.alloc (.cells #[.int .i64 t] 66) := by
  go_enter Try.func23, Try.ntmps23
  go_wp2_with ((go_at_call 36; (with_reducible refine (moment_yes _ h h' _).mono ?_); rintro e w' ⟨rfl, rfl⟩))
  go_ret2
  exact ⟨rfl, rfl⟩
theorem new_bad (t : Int) (h : t < 0 ∨ 4611686018427387904 < t) (w : World) : Calls Try.prog 23 #[.int .i64 t] w fun e w' => e = .returned (.tuple #[.pointer none, .int .i64 1]) ∧ w = w' := by
  go_enter Try.func23, Try.ntmps23
  go_wp2_with ((go_at_call 36; (with_reducible refine (moment_no _ h _).mono ?_); rintro e w' ⟨rfl, rfl⟩))
  go_ret2
  exact ⟨by first | rfl | (simp [*]; done) | (simp [*]; omega) | (simp [*] at *; unfold wrap64 at *; omega), rfl⟩
theorem now_any (b : Nat) (t : Int) (w : World) (hb : Blk w b [.int .i64 t] 66) : Calls Try.prog 19 #[.pointer (some ⟨b, 0, none⟩)] w fun e w' => e = .returned (.int .i64 t) ∧ w = w' := by
  have hc := hb.cell 0 _ rfl
  go_enter Try.func19, Try.ntmps19
  go_wp2
  go_ret
  exact ⟨by first | rfl | (simp [*]; done) | (simp [*]; omega) | (simp [*] at *; unfold wrap64 at *; omega), rfl⟩
theorem now_nil (w : World) : Calls Try.prog 19 #[.pointer none] w fun e w' => e = .returned (.int .i64 0) ∧ w = w' := by
  go_enter Try.func19, Try.ntmps19
  go_wp2
  go_ret
  exact ⟨by first | rfl | (simp [*]; done) | (simp [*]; omega) | (simp [*] at *; unfold wrap64 at *; omega), rfl⟩
theorem adv_ok (b : Nat) (t d : Int) (w : World) (hb : Blk w b [.int .i64 t] 66) (h0 : 0 ≤ t) (h1 : t ≤ 4611686018427387904) (hd : 0 ≤ d) (hd' : d ≤ 9223372036854775807) :
    Calls Try.prog 17 #[.pointer (some ⟨b, 0, none⟩), .int .i64 d] w fun e w' => e = .returned (.tuple #[.int .i64 (tlate t d), .int .i64 0]) ∧ Blk w' b [.int .i64 (tlate t d)] 66 ∧ Chg [b] w w' := by
  have hc := hb.cell 0 _ rfl
  have hf := hb.free 0
  go_enter Try.func17, Try.ntmps17
  go_wp2_with (first | (go_at_call 19; (with_reducible refine (now_any b t _ hb).mono ?_); rintro e w' ⟨rfl, rfl⟩) | (go_at_call 16; (with_reducible refine (add_ok _ _ h0 h1 hd hd' _).mono ?_); rintro e w' ⟨rfl, rfl⟩))
  go_ret2
  exact ⟨rfl, hb.set 0 _, (Chg.refl _ _).setCell (by simp) _⟩
theorem adv_bad (b : Nat) (t d : Int) (w : World) (hb : Blk w b [.int .i64 t] 66) (hd : d < 0) :
    Calls Try.prog 17 #[.pointer (some ⟨b, 0, none⟩), .int .i64 d] w fun e w' => e = .returned (.tuple #[.int .i64 0, .int .i64 1]) ∧ w = w' := by
  have hc := hb.cell 0 _ rfl
  go_enter Try.func17, Try.ntmps17
  go_wp2_with (first | (go_at_call 19; (with_reducible refine (now_any b t _ hb).mono ?_); rintro e w' ⟨rfl, rfl⟩) | (go_at_call 16; (with_reducible refine (add_bad _ _ (.inr (.inr hd)) _).mono ?_); rintro e w' ⟨rfl, rfl⟩))
  go_ret2
  exact ⟨rfl, rfl⟩
theorem adv_nil_ok (d : Int) (w : World) (hd : 0 ≤ d) (hd' : d ≤ 9223372036854775807) :
    Calls Try.prog 17 #[.pointer none, .int .i64 d] w fun e w' => e = .returned (.tuple #[.int .i64 (tlate 0 d), .int .i64 0]) ∧ w = w' := by
  go_enter Try.func17, Try.ntmps17
  go_wp2_with (first | (go_at_call 19; (with_reducible refine (now_nil _).mono ?_); rintro e w' ⟨rfl, rfl⟩) | (go_at_call 16; (with_reducible refine (add_ok _ _ (by omega) (by omega) hd hd' _).mono ?_); rintro e w' ⟨rfl, rfl⟩))
  go_ret2
  exact ⟨rfl, rfl⟩
theorem adv_nil_bad (d : Int) (w : World) (hd : d < 0) :
    Calls Try.prog 17 #[.pointer none, .int .i64 d] w fun e w' => e = .returned (.tuple #[.int .i64 0, .int .i64 1]) ∧ w = w' := by
  go_enter Try.func17, Try.ntmps17
  go_wp2_with (first | (go_at_call 19; (with_reducible refine (now_nil _).mono ?_); rintro e w' ⟨rfl, rfl⟩) | (go_at_call 16; (with_reducible refine (add_bad _ _ (.inr (.inr hd)) _).mono ?_); rintro e w' ⟨rfl, rfl⟩))
  go_ret2
  exact ⟨rfl, rfl⟩
theorem since_ok (b : Nat) (t a : Int) (w : World) (hb : Blk w b [.int .i64 t] 66) (h0 : 0 ≤ a) (h1 : a ≤ 4611686018427387904) (h2 : 0 ≤ t) (h3 : t ≤ 4611686018427387904) :
    Calls Try.prog 24 #[.pointer (some ⟨b, 0, none⟩), .int .i64 a] w fun e w' => e = .returned (.tuple #[.int .i64 (tuntil a t), .int .i64 0]) ∧ w = w' := by
  go_enter Try.func24, Try.ntmps24
  go_wp2_with (first | (go_at_call 19; (with_reducible refine (now_any b t _ hb).mono ?_); rintro e w' ⟨rfl, rfl⟩) | (go_at_call 20; (with_reducible refine (until_ok _ _ h0 h1 h2 h3 _).mono ?_); rintro e w' ⟨rfl, rfl⟩))
  go_ret2
  exact ⟨rfl, rfl⟩
theorem since_bad (b : Nat) (t a : Int) (w : World) (hb : Blk w b [.int .i64 t] 66) (h : a < 0 ∨ 4611686018427387904 < a) :
    Calls Try.prog 24 #[.pointer (some ⟨b, 0, none⟩), .int .i64 a] w fun e w' => e = .returned (.tuple #[.int .i64 0, .int .i64 1]) ∧ w = w' := by
  go_enter Try.func24, Try.ntmps24
  go_wp2_with (first | (go_at_call 19; (with_reducible refine (now_any b t _ hb).mono ?_); rintro e w' ⟨rfl, rfl⟩) | (go_at_call 20; (with_reducible refine (until_bad a t (by omega) _).mono ?_); rintro e w' ⟨rfl, rfl⟩))
  go_ret2
  exact ⟨rfl, rfl⟩
end Go.Proofs.Ytgaggimkkoopfaa
