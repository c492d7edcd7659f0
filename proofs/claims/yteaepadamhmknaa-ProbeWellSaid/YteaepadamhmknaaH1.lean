/- Layers 1 and 18: the moments' contracts; a set of hosts in memory, and its making. -/
import Derived.Test.YteaepadamhmknaaProg
import Derived.Test.YteaepadamhmknaaK
import Derived.Test.YteaepadamhmknaaL
import Derived.Test.YteaepadamhmknaaR
import Derived.Test.YteaepadamhmknaaW
import Derived.WalkKit
import Derived.Lib.Hide
import Derived.BigQuiet
import Derived.StillTailTactics
import Derived.Deep.RegionHeld3
import Derived.Deep.DeepCutAuto
import Derived.Maps.AppendAt
namespace Go.Proofs.Yteaepadamhmknaa
open Go.RowKit
set_option linter.unusedVariables false

theorem wfI {a : Int} (h : (Lit.int .i64 a).wf = true) : -9223372036854775808 ≤ a ∧ a ≤ 9223372036854775807 := by
  simp [Lit.wf, IntKind.min, IntKind.max, IntKind.signed, IntKind.bits] at h
  omega
def tlate (t d : Int) : Int := if 4611686018427387904 - t < d then 4611686018427387904 else t + d
theorem moment_yes (t : Int) (h : 0 ≤ t) (h' : t ≤ 4611686018427387904) (w : World) : Calls Try.prog 44 #[.int .i64 t] w fun e w' => e = .returned (.bool true) ∧ w = w' := by
  go_enter Try.func44, Try.ntmps44
  go_wp2
  all_goals go_ret
  all_goals exact ⟨by first | rfl | (simp [*]; done) | (simp [*]; omega) | (simp [*] at *; unfold wrap64 at *; omega), rfl⟩
theorem moment_no (t : Int) (h : t < 0 ∨ 4611686018427387904 < t) (w : World) : Calls Try.prog 44 #[.int .i64 t] w fun e w' => e = .returned (.bool false) ∧ w = w' := by
  rcases h with h | h
  all_goals
    go_enter Try.func44, Try.ntmps44
    go_wp2
    all_goals go_ret
    all_goals exact ⟨by first | rfl | (simp [*]; done) | (simp [*]; omega) | (simp [*] at *; unfold wrap64 at *; omega), rfl⟩
theorem rmoment_yes (t : Int) (h : 0 ≤ t) (h' : t ≤ 4611686018427387904) (w : World) : Calls Try.prog 21 #[.int .i64 t] w fun e w' => e = .returned (.bool true) ∧ w = w' := by
  go_enter Try.func21, Try.ntmps21
  go_wp2
  all_goals go_ret
  all_goals exact ⟨by first | rfl | (simp [*]; done) | (simp [*]; omega) | (simp [*] at *; unfold wrap64 at *; omega), rfl⟩
theorem rmoment_no (t : Int) (h : t < 0 ∨ 4611686018427387904 < t) (w : World) : Calls Try.prog 21 #[.int .i64 t] w fun e w' => e = .returned (.bool false) ∧ w = w' := by
  rcases h with h | h
  all_goals
    go_enter Try.func21, Try.ntmps21
    go_wp2
    all_goals go_ret
    all_goals exact ⟨by first | rfl | (simp [*]; done) | (simp [*]; omega) | (simp [*] at *; unfold wrap64 at *; omega), rfl⟩
theorem later_any (t d : Int) (h0 : 0 ≤ t) (h1 : t ≤ 4611686018427387904) (hd : 0 ≤ d) (hd' : d ≤ 9223372036854775807) (w : World) : Calls Try.prog 45 #[.int .i64 t, .int .i64 d] w fun e w' => e = .returned (.int .i64 (tlate t d)) ∧ w = w' := by
  unfold tlate
  go_enter Try.func45, Try.ntmps45
  go_wp2
  all_goals go_ret
  all_goals exact ⟨by first | rfl | (simp [*]; done) | (simp [*]; omega) | (simp [*] at *; unfold wrap64 at *; omega), rfl⟩
theorem rlater_any (t d : Int) (h0 : 0 ≤ t) (h1 : t ≤ 4611686018427387904) (hd : 0 ≤ d) (hd' : d ≤ 9223372036854775807) (w : World) : Calls Try.prog 47 #[.int .i64 t, .int .i64 d] w fun e w' => e = .returned (.int .i64 (tlate t d)) ∧ w = w' := by
  unfold tlate
  by_cases h : 4611686018427387904 - t < d
  · rw [if_pos h]
    by_cases h2 : 9223372036854775807 < t + d
    · have h3 : wrap64 (t + d) < t := by unfold wrap64; omega
      go_enter Try.func47, Try.ntmps47
      go_wp2
      all_goals go_ret
      all_goals exact ⟨by first | rfl | (simp [*]; done) | (simp [*]; omega) | (simp [*] at *; unfold wrap64 at *; omega), rfl⟩
    · go_enter Try.func47, Try.ntmps47
      go_wp2
      all_goals go_ret
      all_goals exact ⟨by first | rfl | (simp [*]; done) | (simp [*]; omega) | (simp [*] at *; unfold wrap64 at *; omega), rfl⟩
  · rw [if_neg h]
    go_enter Try.func47, Try.ntmps47
    go_wp2
    all_goals go_ret
    all_goals exact ⟨by first | rfl | (simp [*]; done) | (simp [*]; omega) | (simp [*] at *; unfold wrap64 at *; omega), rfl⟩
theorem add_ok (t d : Int) (h0 : 0 ≤ t) (h1 : t ≤ 4611686018427387904) (hd : 0 ≤ d) (hd' : d ≤ 9223372036854775807) (w : World) : Calls Try.prog 34 #[.int .i64 t, .int .i64 d] w fun e w' => e = .returned (.tuple #[.int .i64 (tlate t d), .int .i64 0]) ∧ w = w' := by
  go_enter Try.func34, Try.ntmps34
  go_wp2_with (first | (go_at_call 44; (with_reducible refine (moment_yes _ (by omega) (by omega) _).mono ?_); rintro e w' ⟨rfl, rfl⟩) | (go_at_call 45; (with_reducible refine (later_any _ _ (by omega) (by omega) (by omega) (by omega) _).mono ?_); rintro e w' ⟨rfl, rfl⟩))
  all_goals go_ret2
  all_goals exact ⟨by first | rfl | (simp [*]; done) | (simp [*]; omega) | (simp [*] at *; unfold wrap64 at *; omega), rfl⟩
theorem add_zero (t : Int) (h0 : 0 ≤ t) (h1 : t ≤ 4611686018427387904) (w : World) : Calls Try.prog 34 #[.int .i64 t, .int .i64 0] w fun e w' => e = .returned (.tuple #[.int .i64 t, .int .i64 0]) ∧ w = w' := by
  have h := add_ok t 0 h0 h1 (by omega) (by omega) w
  rwa [show tlate t 0 = t by unfold tlate; rw [if_neg (by omega), Int.add_zero]] at h
theorem add_bad (t : Int) (h : t < 0 ∨ 4611686018427387904 < t) (w : World) : Calls Try.prog 34 #[.int .i64 t, .int .i64 0] w fun e w' => e = .returned (.tuple #[.int .i64 0, .int .i64 1]) ∧ w = w' := by
  go_enter Try.func34, Try.ntmps34
  go_wp2_with (first | (go_at_call 44; (with_reducible refine (moment_no t h _).mono ?_); rintro e w' ⟨rfl, rfl⟩))
  go_ret2
  exact ⟨rfl, rfl⟩
/-- A host: marked sick, ejected, until when, bad ends in a row, how often it was ejected. -/
structure Ho where
  sick : Bool
  out : Bool
  til : Int
  row : Int
  times : Int
def Ho.cells (h : Ho) : List Value := [.bool h.sick, .bool h.out, .int .i64 h.til, .int .i64 h.row, .int .i64 h.times]
theorem Ho.len (h : Ho) : h.cells.length = 5 := rfl
/-- A set of hosts: its numbers in block b, its hosts in block g. -/
structure Hst (T TH : Nat) (w : World) (b g : Nat) (fails base long share last : Int) (hs : List Ho) : Prop where
  num : Blk w b [.int .i64 fails, .int .i64 base, .int .i64 long, .int .i64 share, .int .i64 last, .slice (some ⟨g, 0, none⟩) hs.length hs.length] T
  recs : Recs Ho.cells w g TH hs
  ne : b ≠ g
/-- What New asks. -/
def Good (n fails base long share : Int) : Prop := 1 ≤ n ∧ n ≤ 16 ∧ 0 ≤ fails ∧ fails ≤ 1000 ∧ 1 ≤ base ∧ base ≤ 1000000 ∧ base ≤ long ∧ long ≤ 1000000 ∧ 0 ≤ share ∧ share ≤ 100
def fresh : Ho := ⟨false, false, 0, 0, 0⟩
theorem info69 : (Try.prog.info? 69).map (fun i => (i.zero, i.size, i.bytes)) = some (some (.agg #[.bool false, .bool false, .int .i64 0, .int .i64 0, .int .i64 0]), 5, 32) := by kernel_rfl
theorem made (m : Nat) : (madeCells (Value.agg #[.bool false, .bool false, .int .i64 0, .int .i64 0, .int .i64 0]).cells (m * 5)).toList = (List.replicate m fresh).flatMap Ho.cells := by
  refine List.ext_getElem? (fun i => ?_)
  by_cases hi : i < m * 5
  · have e : i = i / 5 * 5 + i % 5 := by omega
    have hr := flat_get Ho.cells 5 Ho.len (List.replicate m fresh) (i / 5) (i % 5) fresh (by rw [List.getElem?_replicate, if_pos (by omega)]) (by omega)
    rw [← e] at hr
    rw [hr]
    have hl : (madeCells (Value.agg #[.bool false, .bool false, .int .i64 0, .int .i64 0, .int .i64 0]).cells (m * 5)).toList[i]? = some ((Value.agg #[.bool false, .bool false, .int .i64 0, .int .i64 0, .int .i64 0]).cells[i % 5]!) := by
      simp [madeCells, Value.cells, hi]
    rw [hl]
    have hm : i % 5 < 5 := by omega
    generalize i % 5 = j at hm
    match j, hm with
    | 0, _ => rfl
    | 1, _ => rfl
    | 2, _ => rfl
    | 3, _ => rfl
    | 4, _ => rfl
  · rw [List.getElem?_eq_none (by simp [madeCells]; omega), List.getElem?_eq_none (by rw [flat_len Ho.cells 5 Ho.len]; simp; omega)]
theorem row_blk {w : World} {g m : Nat} {T : Nat} {xs : List Value} (h : w.ownsRow 0 T 5 (.slice (some ⟨g, 0, none⟩) m m) m xs) : Blk w g xs T := by
  rcases h.2 with ⟨e, _⟩ | ⟨g', cap, cur, e, hb, hh, h1, h2, h3, h4⟩
  · cases e
  · injection e with e1 e2 e3
    injection e1 with e1
    injection e1 with e1
    subst e1 e3
    unfold Blk
    rw [hh, ← h4, ← h3, List.take_of_length_le (by simp)]
/-- A set was made. -/
def Made (T TH : Nat) (m : Nat) (fails base long share : Int) (w : World) (e : Ending) (w' : World) : Prop :=
  ∃ b g, e = .returned (.tuple #[.pointer (some ⟨b, 0, none⟩), .int .i64 0]) ∧ w.heap.size ≤ b ∧ w.heap.size ≤ g ∧ Hst T TH w' b g fails base long share 0 (List.replicate m fresh) ∧ Chg [] w w'
set_option maxHeartbeats 1000000 in
theorem new_ok (m : Nat) (fails base long share : Int) (w : World) (h : Good m fails base long share) :
    Calls Try.prog 12 #[.int .i64 m, .int .i64 fails, .int .i64 base, .int .i64 long, .int .i64 share] w (Made 64 69 m fails base long share w) := by
  obtain ⟨h1, h2, h3, h4, h5, h6, h7, h8, h9, ha⟩ := h
  obtain ⟨i0, hi, hz0, hz1, hz2⟩ := info_parts info69
  have HI := Lib.hid (And.intro hi (And.intro hz0 (And.intro hz1 hz2)))
  clear hi hz0 hz1 hz2
  go_enter Try.func12, Try.ntmps12
  go_wp2_with (at_make; refine wpList_make_full _ rfl _ _ 62 rfl 0 69 i0 (.agg #[.bool false, .bool false, .int .i64 0, .int .i64 0, .int .i64 0]) 5 Try.underlying62 HI.out.1 HI.out.2.1 HI.out.2.2.1 .i64 .i64 m m m rfl rfl rfl rfl (by rw [HI.out.2.2.2]; omega) (by unfold maxLen; omega) (Nat.zero_le _) ?_; intro w1 hown hgrow)
  go_ret2
  rw [made m] at hown
  have hc : Chg [] w w1 := (Chg.refl _ w).grown hgrow (by simp)
  have hb := row_blk hown
  refine ⟨w1.heap.size, w.heap.size, rfl, hc.size, Nat.le_refl _, ⟨?_, hb.alloc _, ?_⟩, hc.alloc _⟩
  · rw [List.length_replicate]
    exact Blk.new w1 [.int .i64 fails, .int .i64 base, .int .i64 long, .int .i64 share, .int .i64 0, .slice (some ⟨w.heap.size, 0, none⟩) m m] 64
  · have := hb.lt
    omega
theorem new_bad (m fails base long share : Int) (h : ¬ Good m fails base long share) (w : World) : Calls Try.prog 12 #[.int .i64 m, .int .i64 fails, .int .i64 base, .int .i64 long, .int .i64 share] w fun e w' => e = .returned (.tuple #[.pointer none, .int .i64 1]) ∧ w = w' := by
  by_cases k0 : m < 1
  · clear h
    go_enter Try.func12, Try.ntmps12
    go_wp2
    go_ret2
    exact ⟨rfl, rfl⟩
  by_cases k1 : 16 < m
  · clear h
    go_enter Try.func12, Try.ntmps12
    go_wp2
    go_ret2
    exact ⟨rfl, rfl⟩
  by_cases k2 : fails < 0
  · clear h
    go_enter Try.func12, Try.ntmps12
    go_wp2
    go_ret2
    exact ⟨rfl, rfl⟩
  by_cases k3 : 1000 < fails
  · clear h
    go_enter Try.func12, Try.ntmps12
    go_wp2
    go_ret2
    exact ⟨rfl, rfl⟩
  by_cases k4 : base < 1
  · clear h
    go_enter Try.func12, Try.ntmps12
    go_wp2
    go_ret2
    exact ⟨rfl, rfl⟩
  by_cases k5 : 1000000 < base
  · clear h
    go_enter Try.func12, Try.ntmps12
    go_wp2
    go_ret2
    exact ⟨rfl, rfl⟩
  by_cases k6 : long < base
  · clear h
    go_enter Try.func12, Try.ntmps12
    go_wp2
    go_ret2
    exact ⟨rfl, rfl⟩
  by_cases k7 : 1000000 < long
  · clear h
    go_enter Try.func12, Try.ntmps12
    go_wp2
    go_ret2
    exact ⟨rfl, rfl⟩
  by_cases k8 : share < 0
  · clear h
    go_enter Try.func12, Try.ntmps12
    go_wp2
    go_ret2
    exact ⟨rfl, rfl⟩
  by_cases k9 : 100 < share
  · clear h
    go_enter Try.func12, Try.ntmps12
    go_wp2
    go_ret2
    exact ⟨rfl, rfl⟩
  exact absurd (by unfold Good; omega) h
end Go.Proofs.Yteaepadamhmknaa
