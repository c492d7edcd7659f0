/- Layer 5 (bytes): the program's tchar, Token, Trim, Value. -/
import Derived.Test.YtjndgkbikhndoaaGreatDoorE6
import Derived.Test.YtjndgkbikhndoaaGreatDoorSh
namespace Go.Proofs.YtjndgkbikhndoaaGreatDoor.E
open Go.RowKit Go.ChangeShapes Go.WideShapes
set_option linter.unusedVariables false

theorem beq_eq_decide (a b : List UInt8) : (a == b) = decide (a = b) := by
  by_cases h : a = b
  · rw [h, beq_self_eq_true, decide_eq_true rfl]
  · rw [decide_eq_false h, beq_eq_false_iff_ne.2 h]
theorem Chg.ofBelow {w w' : World} (h : Below w.heap.size w w') : Hid (Chg [] w w') := Lib.hid (Chg.of_below h)
def punct8 : List UInt8 := [33, 35, 36, 37, 38, 39, 42, 43, 45, 46, 94, 95, 96, 124, 126]
theorem punct_index : ∀ n, n < 256 → decide (0 ≤ Lib.indexByte punct8 (UInt8.ofNat n)) = punct.contains (n : Int) := by decide +kernel
theorem punct_byte (c : UInt8) : decide (0 ≤ Lib.indexByte punct8 (c.toNat : Int).toNat.toUInt8) = punct.contains (c.toNat : Int) := by
  have h := punct_index c.toNat c.toNat_lt
  rw [UInt8.ofNat_toNat] at h
  rw [← h]
  show decide (0 ≤ Lib.indexByte punct8 (UInt8.ofNat c.toNat)) = _
  rw [UInt8.ofNat_toNat]
set_option maxHeartbeats 2000000 in
theorem tchar_any (c : UInt8) (w : World) : Calls Tryz.prog 114 #[.int .u8 (c.toNat : Int)] w fun e w' => e = .returned (.bool (tchI (c.toNat : Int))) ∧ w = w' := by
  by_cases hy : (65 ≤ (c.toNat : Int) ∧ (c.toNat : Int) ≤ 90) ∨ (97 ≤ (c.toNat : Int) ∧ (c.toNat : Int) ≤ 122) ∨ (48 ≤ (c.toNat : Int) ∧ (c.toNat : Int) ≤ 57)
  · by_cases h1 : 48 ≤ (c.toNat : Int) ∧ (c.toNat : Int) ≤ 57
    · obtain ⟨a1, a2⟩ := h1
      have HY := Lib.hid (tchI_alnum hy)
      clear hy
      generalize (c.toNat : Int) = c at *
      go_enter Tryz.func114, Tryz.ntmps114
      go_wp2_with fail
      go_ret
      exact ⟨by rw [HY.out]; rfl, by first | rfl | trivial⟩
    · by_cases h2 : 97 ≤ (c.toNat : Int) ∧ (c.toNat : Int) ≤ 122
      · obtain ⟨a1, a2⟩ := h2
        have a3 : (48 : Int) ≤ (c.toNat : Int) := by omega
        have a4 : ¬ (c.toNat : Int) ≤ 57 := by omega
        clear h1
        have HY := Lib.hid (tchI_alnum hy)
        clear hy
        generalize (c.toNat : Int) = c at *
        go_enter Tryz.func114, Tryz.ntmps114
        go_wp2_with fail
        go_ret
        exact ⟨by rw [HY.out]; rfl, by first | rfl | trivial⟩
      · have a1 : (65 : Int) ≤ (c.toNat : Int) := by omega
        have a2 : (c.toNat : Int) ≤ 90 := by omega
        have a3 : (48 : Int) ≤ (c.toNat : Int) := by omega
        have a4 : ¬ (c.toNat : Int) ≤ 57 := by omega
        have a5 : ¬ (97 : Int) ≤ (c.toNat : Int) := by omega
        clear h1 h2
        have HY := Lib.hid (tchI_alnum hy)
        clear hy
        generalize (c.toNat : Int) = c at *
        go_enter Tryz.func114, Tryz.ntmps114
        go_wp2_with fail
        go_ret
        exact ⟨by rw [HY.out]; rfl, by first | rfl | trivial⟩
  · by_cases h1 : (48 : Int) ≤ (c.toNat : Int)
    · have b1 : ¬ (c.toNat : Int) ≤ 57 := by omega
      by_cases h2 : (65 : Int) ≤ (c.toNat : Int)
      · have b2 : ¬ (c.toNat : Int) ≤ 90 := by omega
        by_cases h3 : (97 : Int) ≤ (c.toNat : Int)
        · have b3 : ¬ (c.toNat : Int) ≤ 122 := by omega
          have HY := Lib.hid (tchI_else hy)
          have HP := Lib.hid (punct_byte c)
          clear hy
          unfold punct8 at HP
          have hidx := Tryz.strings_IndexByte ⟨#[33, 35, 36, 37, 38, 39, 42, 43, 45, 46, 94, 95, 96, 124, 126]⟩ (c.toNat : Int) w
          generalize (c.toNat : Int) = c at *
          generalize hr : Lib.indexByte _ _ = r at hidx
          have HR : Hid (Lib.indexByte [33, 35, 36, 37, 38, 39, 42, 43, 45, 46, 94, 95, 96, 124, 126] c.toNat.toUInt8 = r) := Lib.hid hr
          rw [HR.out] at HP
          clear hr
          go_enter Tryz.func114, Tryz.ntmps114
          go_wp2_with fail
          refine hidx.mono ?_
          rintro e w' ⟨rfl, rfl⟩
          go_wp2_with fail
          go_ret
          exact ⟨by rw [HY.out, ← HP.out]; rfl, by first | rfl | trivial⟩
        · skip
          have HY := Lib.hid (tchI_else hy)
          have HP := Lib.hid (punct_byte c)
          clear hy
          unfold punct8 at HP
          have hidx := Tryz.strings_IndexByte ⟨#[33, 35, 36, 37, 38, 39, 42, 43, 45, 46, 94, 95, 96, 124, 126]⟩ (c.toNat : Int) w
          generalize (c.toNat : Int) = c at *
          generalize hr : Lib.indexByte _ _ = r at hidx
          have HR : Hid (Lib.indexByte [33, 35, 36, 37, 38, 39, 42, 43, 45, 46, 94, 95, 96, 124, 126] c.toNat.toUInt8 = r) := Lib.hid hr
          rw [HR.out] at HP
          clear hr
          go_enter Tryz.func114, Tryz.ntmps114
          go_wp2_with fail
          refine hidx.mono ?_
          rintro e w' ⟨rfl, rfl⟩
          go_wp2_with fail
          go_ret
          exact ⟨by rw [HY.out, ← HP.out]; rfl, by first | rfl | trivial⟩
      · have h3 : ¬ (97 : Int) ≤ (c.toNat : Int) := by omega
        have HY := Lib.hid (tchI_else hy)
        have HP := Lib.hid (punct_byte c)
        clear hy
        unfold punct8 at HP
        have hidx := Tryz.strings_IndexByte ⟨#[33, 35, 36, 37, 38, 39, 42, 43, 45, 46, 94, 95, 96, 124, 126]⟩ (c.toNat : Int) w
        generalize (c.toNat : Int) = c at *
        generalize hr : Lib.indexByte _ _ = r at hidx
        have HR : Hid (Lib.indexByte [33, 35, 36, 37, 38, 39, 42, 43, 45, 46, 94, 95, 96, 124, 126] c.toNat.toUInt8 = r) := Lib.hid hr
        rw [HR.out] at HP
        clear hr
        go_enter Tryz.func114, Tryz.ntmps114
        go_wp2_with fail
        refine hidx.mono ?_
        rintro e w' ⟨rfl, rfl⟩
        go_wp2_with fail
        go_ret
        exact ⟨by rw [HY.out, ← HP.out]; rfl, by first | rfl | trivial⟩
    · have h2 : ¬ (65 : Int) ≤ (c.toNat : Int) := by omega
      have h3 : ¬ (97 : Int) ≤ (c.toNat : Int) := by omega
      have HY := Lib.hid (tchI_else hy)
      have HP := Lib.hid (punct_byte c)
      clear hy
      unfold punct8 at HP
      have hidx := Tryz.strings_IndexByte ⟨#[33, 35, 36, 37, 38, 39, 42, 43, 45, 46, 94, 95, 96, 124, 126]⟩ (c.toNat : Int) w
      generalize (c.toNat : Int) = c at *
      generalize hr : Lib.indexByte _ _ = r at hidx
      have HR : Hid (Lib.indexByte [33, 35, 36, 37, 38, 39, 42, 43, 45, 46, 94, 95, 96, 124, 126] c.toNat.toUInt8 = r) := Lib.hid hr
      rw [HR.out] at HP
      clear hr
      go_enter Tryz.func114, Tryz.ntmps114
      go_wp2_with fail
      refine hidx.mono ?_
      rintro e w' ⟨rfl, rfl⟩
      go_wp2_with fail
      go_ret
      exact ⟨by rw [HY.out, ← HP.out]; rfl, by first | rfl | trivial⟩
theorem tok_text (s : ByteArray) (h : ∀ (j : Nat) (c : UInt8), s.data.toList[j]? = some c → tchI (c.toNat : Int) = true) (z : Bool) (hz : z = decide (s.data.toList ≠ [])) : tokB s = z := by
  rw [tok_end s h, hz]
  cases s.data.toList <;> rfl
set_option maxHeartbeats 4000000 in
set_option maxRecDepth 100000 in
theorem token_any (s : ByteArray) (w : World) (hs : s.size ≤ 1048576) :
    Calls Tryz.prog 87 #[.string s] w fun e w' => e = .returned (.bool (tokB s)) ∧ Hid (Chg [] w w') := by
  have hz3 : (s.size : Int) ≤ 1048576 := by omega
  go_enter Tryz.func87, Tryz.ntmps87
  go_wp2
  go_loopw [6] (fun i wr => ∃ k : Nat, k ≤ s.size ∧ i = .int .i64 k ∧ Hid (∀ (j : Nat) (c : UInt8), j < k → s.data.toList[j]? = some c → tchI (c.toNat : Int) = true) ∧ Hid (Chg [] w wr)) (fun i _ => s.size - (intOf i).toNat)
  case atStart => exact ⟨0, by omega, rfl, Lib.hid (fun j c hj => absurd hj (by omega)), Chg.refl _ _⟩
  case round =>
    obtain ⟨k, hk, rfl, HA, HC⟩ := hrel
    by_cases hlt : k < s.size
    · skip
      have hlt2 : (k : Int) < (s.size : Int) := by omega
      go_wp2_with fail
      have hcl := toList_get s k hlt
      generalize s[k]'hlt = c at hcl ⊢
      refine (tchar_any c _).mono ?_
      rintro e w2 ⟨rfl, rfl⟩
      cases ht : tchI (c.toNat : Int)
      · have HM := Lib.hid (tok_no s k c hcl ht)
        clear ht hcl
        go_wp2
        go_ret
        exact ⟨by rw [HM.out]; rfl, HC.out⟩
      · have HA2 := Lib.hid (all_step (p := fun c => tchI (c.toNat : Int) = true) HA.out hcl ht)
        have HC2 := HC
        clear ht hcl HA HC
        go_wp2
        go_roundw
        case rel => exact ⟨k + 1, by omega, by go_num, HA2, HC2⟩
        case measure => simp [intOf]; omega
    · obtain rfl : k = s.size := by omega
      have HM := Lib.hid (tok_text s (fun j c hc => HA.out j c (by rw [← toList_len]; exact (List.getElem?_eq_some_iff.1 hc).1) hc))
      go_wp2
      go_ret
      refine ⟨?_, HC.out⟩
      rw [HM.out _ rfl]
      show Ending.returned (.bool !s.toList.isEmpty) = _
      rw [ByteArray.toList_eq]
      cases s.data.toList <;> rfl
theorem trim_any (s : ByteArray) (w : World) (hs : s.size ≤ 1048576) :
    Calls Tryz.prog 115 #[.string s] w fun e w' => e = .returned (.string ⟨(Lib.trimS s.data.toList bl2).toArray⟩) ∧ Hid (Chg [] w w') := by
  have htr := Any.strings_Trim_laid Tryz.lays160 (by kernel_rfl) s ⟨#[32, 9]⟩ w (by omega) (by decide) (ascii_of_all (by decide))
  change Calls Tryz.prog 136 _ _ _ at htr
  go_enter Tryz.func115, Tryz.ntmps115
  go_wp2_with fail
  refine htr.mono ?_
  rintro e w' ⟨rfl, H⟩
  have HC := Chg.ofBelow H
  have hE : Lib.trimS s.data.toList (ByteArray.mk #[32, 9]).data.toList = Lib.trimS s.data.toList bl2 := rfl
  rw [hE]
  clear hE H
  go_wp2_with fail
  go_ret
  exact ⟨rfl, HC.out⟩
set_option maxHeartbeats 4000000 in
set_option maxRecDepth 100000 in
theorem value_any (s : ByteArray) (w : World) (hs : s.size ≤ 1048576) :
    Calls Tryz.prog 88 #[.string s] w fun e w' => e = .returned (.bool (valB s)) ∧ Hid (Chg [] w w') := by
  have hz3 : (s.size : Int) ≤ 1048576 := by omega
  go_enter Tryz.func88, Tryz.ntmps88
  go_wp2
  go_loopw [7] (fun i wr => ∃ k : Nat, k ≤ s.size ∧ i = .int .i64 k ∧ Hid (∀ (j : Nat) (c : UInt8), j < k → s.data.toList[j]? = some c → okV c.toNat = true) ∧ w = wr) (fun i _ => s.size - (intOf i).toNat)
  case atStart => exact ⟨0, by omega, rfl, Lib.hid (fun j c hj => absurd hj (by omega)), by first | rfl | trivial⟩
  case round =>
    obtain ⟨k, hk, rfl, HA, rfl⟩ := hrel
    by_cases hlt : k < s.size
    · have hlt2 : (k : Int) < (s.size : Int) := by omega
      go_upto_region 5 with fail
      have hcl := toList_get s k hlt
      generalize s[k]'hlt = c at hcl ⊢
      have hb : (c.toNat : Int) ≤ 255 := by have := c.toNat_lt; omega
      have hb0 : (0 : Int) ≤ (c.toNat : Int) := by omega
      by_cases h1 : (c.toNat : Int) < 32
      · by_cases h2 : (c.toNat : Int) = 9
        · have k1 : ((c.toNat : Int) == 127) = false := beq_eq_false_iff_ne.2 (by omega)
          have HA2 := Lib.hid (all_step (p := fun c => okV c.toNat = true) HA.out hcl (by unfold okV; simp; omega))
          clear HA hcl
          generalize (c.toNat : Int) = x at *
          go_wp2
          go_roundw
          case rel => exact ⟨k + 1, by omega, by go_num, HA2, by first | rfl | trivial⟩
          case measure => simp [intOf]; omega
        · skip
          have HM := Lib.hid (val_no s k c hcl (by unfold okV; simp; omega))
          clear HA hcl
          generalize (c.toNat : Int) = x at *
          go_wp2
          go_ret
          exact ⟨by rw [HM.out]; rfl, by first | exact Chg.refl _ _ | rfl⟩
      · by_cases h2 : (c.toNat : Int) = 127
        · skip
          have HM := Lib.hid (val_no s k c hcl (by unfold okV; simp; omega))
          clear HA hcl
          generalize (c.toNat : Int) = x at *
          go_wp2
          go_ret
          exact ⟨by rw [HM.out]; rfl, by first | exact Chg.refl _ _ | rfl⟩
        · have k1 : ((c.toNat : Int) == 127) = false := beq_eq_false_iff_ne.2 (by omega)
          have HA2 := Lib.hid (all_step (p := fun c => okV c.toNat = true) HA.out hcl (by unfold okV; simp; omega))
          clear HA hcl
          generalize (c.toNat : Int) = x at *
          go_wp2
          go_roundw
          case rel => exact ⟨k + 1, by omega, by go_num, HA2, by first | rfl | trivial⟩
          case measure => simp [intOf]; omega
    · obtain rfl : k = s.size := by omega
      have HM := Lib.hid (val_end s (fun j c hc => HA.out j c (by rw [← toList_len]; exact (List.getElem?_eq_some_iff.1 hc).1) hc))
      go_wp2_with fail
      refine (trim_any s _ hs).mono ?_
      rintro e w1 ⟨rfl, H1⟩
      go_wp2_with fail
      go_ret
      refine ⟨?_, H1.out⟩
      rw [HM.out]
      show Ending.returned (.bool (Lib.trimS s.data.toList bl2 == s.toList)) = _
      rw [ByteArray.toList_eq, beq_eq_decide]
end Go.Proofs.YtjndgkbikhndoaaGreatDoor.E
