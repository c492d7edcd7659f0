/- Layer 6, the reference: last, digit, Digits, named. -/
import Derived.Test.YtjndgkbikhndoaaGreatDoorU1
import Derived.Test.YtjndgkbikhndoaaGreatDoorTD
namespace Go.Proofs.YtjndgkbikhndoaaGreatDoor
open Go.RowKit Go.ChangeShapes Go.WideShapes
set_option linter.unusedVariables false

theorem data_at (s : ByteArray) (k : Nat) (h : k < s.size) : s.data[k]! = s[k]'h := by
  rw [getElem!_pos s.data k h]
  rfl
set_option maxHeartbeats 4000000 in
set_option maxRecDepth 100000 in
theorem last_any (s : ByteArray) (c : Int) (w : World) (hs : s.size ≤ 1048576) (z : Int) (hz : Lib.lastIndexByte s c = z) : Calls Tryz.prog 108 #[.string s, .int .u8 c] w fun e w' => e = .returned (.int .i64 z) ∧ w = w' := by
  have hz3 : (s.size : Int) ≤ 1048576 := by omega
  have HZ := Lib.hid hz
  clear hz
  go_enter Tryz.func108, Tryz.ntmps108
  go_wp2
  go_loopw [5] (fun i wr => ∃ k : Nat, k ≤ s.size ∧ i = .int .i64 ((k : Int) - 1) ∧ Hid (Lib.lastIdx s c k = z) ∧ wr = w) (fun i _ => (intOf i + 1).toNat)
  case atStart => exact ⟨s.size, by omega, rfl, HZ, rfl⟩
  case round =>
    obtain ⟨k, hk, rfl, HL, rfl⟩ := hrel
    cases k with
    | zero =>
      have HR := Lib.hid (show z = -1 from by rw [← HL.out]; rfl)
      go_wp2
      go_ret
      exact ⟨by rw [HR.out]; rfl, rfl⟩
    | succ j =>
      have hj : j < s.size := by omega
      have e1 : ((j + 1 : Nat) : Int) - 1 = (j : Int) := by omega
      rw [e1]
      have hj2 : (j : Int) < (s.size : Int) := by omega
      have hj0 : (0 : Int) ≤ (j : Int) := by omega
      have hda := data_at s j hj
      obtain ⟨x, hx⟩ : ∃ x, s[j]'hj = x := ⟨_, rfl⟩
      rw [hx] at hda
      by_cases hxc : (x.toNat : Int) = c
      · have HR := Lib.hid (show z = (j : Int) from by rw [← HL.out]; exact Lib.lastIdx_hit s c j (by rw [hda]; exact hxc))
        have hq : ((x.toNat : Int) == c) = true := beq_iff_eq.2 hxc
        clear hda hxc
        go_wp2
        go_ret
        exact ⟨by rw [HR.out]; rfl, rfl⟩
      · have HR := Lib.hid (show Lib.lastIdx s c j = z from by rw [← HL.out]; exact (Lib.lastIdx_miss s c j (by rw [hda]; exact hxc)).symm)
        have hq : ((x.toNat : Int) == c) = false := beq_eq_false_iff_ne.2 hxc
        clear hda hxc
        go_wp2
        go_roundw
        case rel => exact ⟨j, by omega, by go_num, HR, by first | rfl | trivial⟩
        case measure => simp [intOf]
/-- What a decimal digit says; -1: it is none. -/
def dig10 (c : Int) : Int := if 48 ≤ c ∧ c ≤ 57 then c - 48 else -1
set_option maxHeartbeats 4000000 in
set_option maxRecDepth 100000 in
theorem digit_any (c : Int) (w : World) (h0 : 0 ≤ c) (h1 : c ≤ 255) : Calls Tryz.prog 133 #[.int .u8 c, .int .i64 10] w fun e w' => e = .returned (.int .i64 (dig10 c)) ∧ w = w' := by
  by_cases a1 : 48 ≤ c
  · by_cases a2 : c ≤ 57
    · skip
      (have HD := Lib.hid (show dig10 c = (c - 48) from by unfold dig10; first | rw [if_pos (by omega)] | rw [if_neg (by omega)]);
       go_enter Tryz.func133, Tryz.ntmps133;
       go_wp2;
       go_ret;
       exact ⟨by rw [HD.out]; rfl, rfl⟩)
    · by_cases a3 : 97 ≤ c
      · have b1 : (65 : Int) ≤ c := by omega
        have b2 : ¬ c ≤ 90 := by omega
        have b3 : ¬ c ≤ 70 := by omega
        by_cases a4 : c ≤ 102
        · skip
          (have HD := Lib.hid (show dig10 c = (-1) from by unfold dig10; first | rw [if_pos (by omega)] | rw [if_neg (by omega)]);
           go_enter Tryz.func133, Tryz.ntmps133;
           go_wp2;
           go_ret;
           exact ⟨by rw [HD.out]; rfl, rfl⟩)
        · skip
          (have HD := Lib.hid (show dig10 c = (-1) from by unfold dig10; first | rw [if_pos (by omega)] | rw [if_neg (by omega)]);
           go_enter Tryz.func133, Tryz.ntmps133;
           go_wp2;
           go_ret;
           exact ⟨by rw [HD.out]; rfl, rfl⟩)
      · by_cases a5 : 65 ≤ c
        · by_cases a6 : c ≤ 70
          · skip
            (have HD := Lib.hid (show dig10 c = (-1) from by unfold dig10; first | rw [if_pos (by omega)] | rw [if_neg (by omega)]);
             go_enter Tryz.func133, Tryz.ntmps133;
             go_wp2;
             go_ret;
             exact ⟨by rw [HD.out]; rfl, rfl⟩)
          · skip
            (have HD := Lib.hid (show dig10 c = (-1) from by unfold dig10; first | rw [if_pos (by omega)] | rw [if_neg (by omega)]);
             go_enter Tryz.func133, Tryz.ntmps133;
             go_wp2;
             go_ret;
             exact ⟨by rw [HD.out]; rfl, rfl⟩)
        · skip
          (have HD := Lib.hid (show dig10 c = (-1) from by unfold dig10; first | rw [if_pos (by omega)] | rw [if_neg (by omega)]);
           go_enter Tryz.func133, Tryz.ntmps133;
           go_wp2;
           go_ret;
           exact ⟨by rw [HD.out]; rfl, rfl⟩)
  · have b1 : ¬ (97 : Int) ≤ c := by omega
    have b2 : ¬ (65 : Int) ≤ c := by omega
    skip
    (have HD := Lib.hid (show dig10 c = (-1) from by unfold dig10; first | rw [if_pos (by omega)] | rw [if_neg (by omega)]);
     go_enter Tryz.func133, Tryz.ntmps133;
     go_wp2;
     go_ret;
     exact ⟨by rw [HD.out]; rfl, rfl⟩)
end Go.Proofs.YtjndgkbikhndoaaGreatDoor
