/- Contracts of the functions of layer 1 (tick) and of its reference: what each returns, and that it leaves memory alone. -/
import Derived.Test.YtgaggimkkoopfaaProg
import Derived.WalkKit
import Derived.Lib.Hide
import Derived.BigQuiet
namespace Go.Proofs.Ytgaggimkkoopfaa
open Go.RowKit

def tlate (t d : Int) : Int := if 4611686018427387904 - t < d then 4611686018427387904 else t + d
def tuntil (a b : Int) : Int := if b < a then 0 else b - a
def Mom (t : Int) : Prop := 0 ≤ t ∧ t ≤ 4611686018427387904

theorem moment_yes (t : Int) (h : 0 ≤ t) (h' : t ≤ 4611686018427387904) (w : World) : Calls Try.prog 36 #[.int .i64 t] w fun e w' => e = .returned (.bool true) ∧ w = w' := by
  go_enter Try.func36, Try.ntmps36
  go_wp2
  all_goals go_ret
  all_goals exact ⟨by first | rfl | (simp [*]; done) | (simp [*]; omega) | (simp [*] at *; unfold wrap64 at *; omega), rfl⟩
theorem moment_no (t : Int) (h : t < 0 ∨ 4611686018427387904 < t) (w : World) : Calls Try.prog 36 #[.int .i64 t] w fun e w' => e = .returned (.bool false) ∧ w = w' := by
  rcases h with h | h
  all_goals
    go_enter Try.func36, Try.ntmps36
    go_wp2
    all_goals go_ret
    all_goals exact ⟨by first | rfl | (simp [*]; done) | (simp [*]; omega) | (simp [*] at *; unfold wrap64 at *; omega), rfl⟩
theorem rmoment_yes (t : Int) (h : 0 ≤ t) (h' : t ≤ 4611686018427387904) (w : World) : Calls Try.prog 22 #[.int .i64 t] w fun e w' => e = .returned (.bool true) ∧ w = w' := by
  go_enter Try.func22, Try.ntmps22
  go_wp2
  all_goals go_ret
  all_goals exact ⟨by first | rfl | (simp [*]; done) | (simp [*]; omega) | (simp [*] at *; unfold wrap64 at *; omega), rfl⟩
theorem rmoment_no (t : Int) (h : t < 0 ∨ 4611686018427387904 < t) (w : World) : Calls Try.prog 22 #[.int .i64 t] w fun e w' => e = .returned (.bool false) ∧ w = w' := by
  rcases h with h | h
  all_goals
    go_enter Try.func22, Try.ntmps22
    go_wp2
    all_goals go_ret
    all_goals exact ⟨by first | rfl | (simp [*]; done) | (simp [*]; omega) | (simp [*] at *; unfold wrap64 at *; omega), rfl⟩
theorem later_any (t d : Int) (h0 : 0 ≤ t) (h1 : t ≤ 4611686018427387904) (hd : 0 ≤ d) (hd' : d ≤ 9223372036854775807) (w : World) : Calls Try.prog 37 #[.int .i64 t, .int .i64 d] w fun e w' => e = .returned (.int .i64 (tlate t d)) ∧ w = w' := by
  unfold tlate
  go_enter Try.func37, Try.ntmps37
  go_wp2
  all_goals go_ret
  all_goals exact ⟨by first | rfl | (simp [*]; done) | (simp [*]; omega) | (simp [*] at *; unfold wrap64 at *; omega), rfl⟩
theorem rlater_any (t d : Int) (h0 : 0 ≤ t) (h1 : t ≤ 4611686018427387904) (hd : 0 ≤ d) (hd' : d ≤ 9223372036854775807) (w : World) : Calls Try.prog 38 #[.int .i64 t, .int .i64 d] w fun e w' => e = .returned (.int .i64 (tlate t d)) ∧ w = w' := by
  unfold tlate
  by_cases h : 4611686018427387904 - t < d
  · rw [if_pos h]
    by_cases h2 : 9223372036854775807 < t + d
    · have h3 : wrap64 (t + d) < t := by unfold wrap64; omega
      go_enter Try.func38, Try.ntmps38
      go_wp2
      all_goals go_ret
      all_goals exact ⟨by first | rfl | (simp [*]; done) | (simp [*]; omega) | (simp [*] at *; unfold wrap64 at *; omega), rfl⟩
    · go_enter Try.func38, Try.ntmps38
      go_wp2
      all_goals go_ret
      all_goals exact ⟨by first | rfl | (simp [*]; done) | (simp [*]; omega) | (simp [*] at *; unfold wrap64 at *; omega), rfl⟩
  · rw [if_neg h]
    go_enter Try.func38, Try.ntmps38
    go_wp2
    all_goals go_ret
    all_goals exact ⟨by first | rfl | (simp [*]; done) | (simp [*]; omega) | (simp [*] at *; unfold wrap64 at *; omega), rfl⟩
theorem add_ok (t d : Int) (h0 : 0 ≤ t) (h1 : t ≤ 4611686018427387904) (hd : 0 ≤ d) (hd' : d ≤ 9223372036854775807) (w : World) : Calls Try.prog 16 #[.int .i64 t, .int .i64 d] w fun e w' => e = .returned (.tuple #[.int .i64 (tlate t d), .int .i64 0]) ∧ w = w' := by
  go_enter Try.func16, Try.ntmps16
  go_wp2_with (first | (go_at_call 36; (with_reducible refine (moment_yes _ (by omega) (by omega) _).mono ?_); rintro e w' ⟨rfl, rfl⟩) | (go_at_call 37; (with_reducible refine (later_any _ _ (by omega) (by omega) (by omega) (by omega) _).mono ?_); rintro e w' ⟨rfl, rfl⟩))
  all_goals go_ret2
  all_goals exact ⟨by first | rfl | (simp [*]; done) | (simp [*]; omega) | (simp [*] at *; unfold wrap64 at *; omega), rfl⟩
theorem add_bad (t d : Int) (h : t < 0 ∨ 4611686018427387904 < t ∨ d < 0) (w : World) : Calls Try.prog 16 #[.int .i64 t, .int .i64 d] w fun e w' => e = .returned (.tuple #[.int .i64 0, .int .i64 1]) ∧ w = w' := by
  by_cases hm : t < 0 ∨ 4611686018427387904 < t
  · go_enter Try.func16, Try.ntmps16
    go_wp2_with ((go_at_call 36; (with_reducible refine (moment_no _ hm _).mono ?_); rintro e w' ⟨rfl, rfl⟩))
    all_goals go_ret2
    all_goals exact ⟨by first | rfl | (simp [*]; done) | (simp [*]; omega) | (simp [*] at *; unfold wrap64 at *; omega), rfl⟩
  · have h0 : 0 ≤ t := by omega
    have h1 : t ≤ 4611686018427387904 := by omega
    have h2 : d < 0 := by omega
    clear hm h
    go_enter Try.func16, Try.ntmps16
    go_wp2_with ((go_at_call 36; (with_reducible refine (moment_yes _ (by omega) (by omega) _).mono ?_); rintro e w' ⟨rfl, rfl⟩))
    all_goals go_ret2
    all_goals exact ⟨by first | rfl | (simp [*]; done) | (simp [*]; omega) | (simp [*] at *; unfold wrap64 at *; omega), rfl⟩
theorem radd_ok (t d : Int) (h0 : 0 ≤ t) (h1 : t ≤ 4611686018427387904) (hd : 0 ≤ d) (hd' : d ≤ 9223372036854775807) (w : World) : Calls Try.prog 18 #[.int .i64 t, .int .i64 d] w fun e w' => e = .returned (.tuple #[.int .i64 (tlate t d), .int .i64 0]) ∧ w = w' := by
  go_enter Try.func18, Try.ntmps18
  go_wp2_with (first | (go_at_call 22; (with_reducible refine (rmoment_yes _ (by omega) (by omega) _).mono ?_); rintro e w' ⟨rfl, rfl⟩) | (go_at_call 38; (with_reducible refine (rlater_any _ _ (by omega) (by omega) (by omega) (by omega) _).mono ?_); rintro e w' ⟨rfl, rfl⟩))
  all_goals go_ret2
  all_goals exact ⟨by first | rfl | (simp [*]; done) | (simp [*]; omega) | (simp [*] at *; unfold wrap64 at *; omega), rfl⟩
theorem radd_bad (t d : Int) (h : t < 0 ∨ 4611686018427387904 < t ∨ d < 0) (w : World) : Calls Try.prog 18 #[.int .i64 t, .int .i64 d] w fun e w' => e = .returned (.tuple #[.int .i64 0, .int .i64 1]) ∧ w = w' := by
  by_cases hm : t < 0 ∨ 4611686018427387904 < t
  · go_enter Try.func18, Try.ntmps18
    go_wp2_with ((go_at_call 22; (with_reducible refine (rmoment_no _ hm _).mono ?_); rintro e w' ⟨rfl, rfl⟩))
    all_goals go_ret2
    all_goals exact ⟨by first | rfl | (simp [*]; done) | (simp [*]; omega) | (simp [*] at *; unfold wrap64 at *; omega), rfl⟩
  · have h0 : 0 ≤ t := by omega
    have h1 : t ≤ 4611686018427387904 := by omega
    have h2 : d < 0 := by omega
    clear hm h
    go_enter Try.func18, Try.ntmps18
    go_wp2_with ((go_at_call 22; (with_reducible refine (rmoment_yes _ (by omega) (by omega) _).mono ?_); rintro e w' ⟨rfl, rfl⟩))
    all_goals go_ret2
    all_goals exact ⟨by first | rfl | (simp [*]; done) | (simp [*]; omega) | (simp [*] at *; unfold wrap64 at *; omega), rfl⟩
theorem until_ok (a b : Int) (h0 : 0 ≤ a) (h1 : a ≤ 4611686018427387904) (h2 : 0 ≤ b) (h3 : b ≤ 4611686018427387904) (w : World) : Calls Try.prog 20 #[.int .i64 a, .int .i64 b] w fun e w' => e = .returned (.tuple #[.int .i64 (tuntil a b), .int .i64 0]) ∧ w = w' := by
  unfold tuntil
  go_enter Try.func20, Try.ntmps20
  go_wp2_with ((go_at_call 36; (with_reducible refine (moment_yes _ (by omega) (by omega) _).mono ?_); rintro e w' ⟨rfl, rfl⟩))
  all_goals go_ret2
  all_goals exact ⟨by first | rfl | (simp [*]; done) | (simp [*]; omega) | (simp [*] at *; unfold wrap64 at *; omega), rfl⟩
theorem until_bad (a b : Int) (h : a < 0 ∨ 4611686018427387904 < a ∨ b < 0 ∨ 4611686018427387904 < b) (w : World) : Calls Try.prog 20 #[.int .i64 a, .int .i64 b] w fun e w' => e = .returned (.tuple #[.int .i64 0, .int .i64 1]) ∧ w = w' := by
  by_cases hm : a < 0 ∨ 4611686018427387904 < a
  · go_enter Try.func20, Try.ntmps20
    go_wp2_with ((go_at_call 36; (with_reducible refine (moment_no _ hm _).mono ?_); rintro e w' ⟨rfl, rfl⟩))
    all_goals go_ret2
    all_goals exact ⟨by first | rfl | (simp [*]; done) | (simp [*]; omega) | (simp [*] at *; unfold wrap64 at *; omega), rfl⟩
  · have h0 : 0 ≤ a := by omega
    have h1 : a ≤ 4611686018427387904 := by omega
    have h2 : b < 0 ∨ 4611686018427387904 < b := by omega
    clear hm h
    go_enter Try.func20, Try.ntmps20
    go_wp2_with (first | (go_at_call 36; (with_reducible refine (moment_yes a h0 h1 _).mono ?_); rintro e w' ⟨rfl, rfl⟩) | (go_at_call 36; (with_reducible refine (moment_no b h2 _).mono ?_); rintro e w' ⟨rfl, rfl⟩))
    all_goals go_ret2
    all_goals exact ⟨by first | rfl | (simp [*]; done) | (simp [*]; omega) | (simp [*] at *; unfold wrap64 at *; omega), rfl⟩
theorem runtil_ok (a b : Int) (h0 : 0 ≤ a) (h1 : a ≤ 4611686018427387904) (h2 : 0 ≤ b) (h3 : b ≤ 4611686018427387904) (w : World) : Calls Try.prog 21 #[.int .i64 a, .int .i64 b] w fun e w' => e = .returned (.tuple #[.int .i64 (tuntil a b), .int .i64 0]) ∧ w = w' := by
  unfold tuntil
  go_enter Try.func21, Try.ntmps21
  go_wp2_with ((go_at_call 22; (with_reducible refine (rmoment_yes _ (by omega) (by omega) _).mono ?_); rintro e w' ⟨rfl, rfl⟩))
  all_goals go_ret2
  all_goals exact ⟨by first | rfl | (simp [*]; done) | (simp [*]; omega) | (simp [*] at *; unfold wrap64 at *; omega), rfl⟩
theorem runtil_bad (a b : Int) (h : a < 0 ∨ 4611686018427387904 < a ∨ b < 0 ∨ 4611686018427387904 < b) (w : World) : Calls Try.prog 21 #[.int .i64 a, .int .i64 b] w fun e w' => e = .returned (.tuple #[.int .i64 0, .int .i64 1]) ∧ w = w' := by
  by_cases hm : a < 0 ∨ 4611686018427387904 < a
  · go_enter Try.func21, Try.ntmps21
    go_wp2_with ((go_at_call 22; (with_reducible refine (rmoment_no _ hm _).mono ?_); rintro e w' ⟨rfl, rfl⟩))
    all_goals go_ret2
    all_goals exact ⟨by first | rfl | (simp [*]; done) | (simp [*]; omega) | (simp [*] at *; unfold wrap64 at *; omega), rfl⟩
  · have h0 : 0 ≤ a := by omega
    have h1 : a ≤ 4611686018427387904 := by omega
    have h2 : b < 0 ∨ 4611686018427387904 < b := by omega
    clear hm h
    go_enter Try.func21, Try.ntmps21
    go_wp2_with (first | (go_at_call 22; (with_reducible refine (rmoment_yes a h0 h1 _).mono ?_); rintro e w' ⟨rfl, rfl⟩) | (go_at_call 22; (with_reducible refine (rmoment_no b h2 _).mono ?_); rintro e w' ⟨rfl, rfl⟩))
    all_goals go_ret2
    all_goals exact ⟨by first | rfl | (simp [*]; done) | (simp [*]; omega) | (simp [*] at *; unfold wrap64 at *; omega), rfl⟩
end Go.Proofs.Ytgaggimkkoopfaa
