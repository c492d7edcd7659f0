/- Layer 14, the reference: kind. -/
import Derived.Test.YtjndgkbikhndoaaGreatDoorY3
namespace Go.Proofs.YtjndgkbikhndoaaGreatDoor
open Go.RowKit Go.ChangeShapes Go.WideShapes
set_option linter.unusedVariables false

theorem star_pre2 {s : ByteArray} (h : 2 ≤ s.size) : ((s.extract 0 2).toList == [42, 46]) = Lib.hasPrefix s.data.toList [42, 46] := by
  have h1 := Lib.hasPrefix_raw s ⟨#[42, 46]⟩
  rw [star_list, star_list', star_size, decide_eq_true h, Bool.true_and] at h1
  exact h1
theorem star_short {s : ByteArray} (h : ¬ 2 ≤ s.size) : Lib.hasPrefix s.data.toList [42, 46] = false := by
  rw [Bool.eq_false_iff]
  intro h1
  have := (List.isPrefixOf_iff_prefix.1 h1).length_le
  rw [toList_len] at this
  have h2 : 2 ≤ s.size := this
  omega
theorem wild_size {m : ByteArray} (hp : Lib.hasPrefix m.data.toList [42, 46] = true) : (wildB m).size = m.size - 2 := by
  show (Lib.trimPrefix m.data.toList [42, 46]).toArray.size = _
  unfold Lib.trimPrefix
  rw [if_pos hp, List.size_toArray, List.length_drop, toList_len]
  rfl
set_option maxHeartbeats 8000000 in
set_option maxRecDepth 100000 in
theorem kind_any (m h : ByteArray) (w : World) (hm : m.size ≤ 1048576) (hh : h.size ≤ 1048576) (z : Int) (hz : kindZ m h = z) : Calls Tryz.prog 28 #[.string m, .string h] w fun e w' => e = .returned (.int .i64 z) ∧ Hid (Chg [] w w') := by
  unfold kindZ at hz
  by_cases h1 : m.size = 0
  · rw [if_pos h1] at hz
    have he := emp_true h1
    have HR := Lib.hid hz.symm
    clear hz h1
    go_enter Tryz.func28, Tryz.ntmps28
    go_wp2
    go_ret
    exact ⟨by rw [HR.out]; rfl, Chg.refl _ _⟩
  rw [if_neg h1] at hz
  have he := emp_false h1
  by_cases h2 : m = h
  · rw [if_pos h2] at hz
    have hq : (m.toList == h.toList) = true := by rw [h2]; exact eqb_true h
    have HR := Lib.hid hz.symm
    clear hz h1 h2
    go_enter Tryz.func28, Tryz.ntmps28
    go_wp2
    go_ret
    exact ⟨by rw [HR.out]; rfl, Chg.refl _ _⟩
  rw [if_neg h2] at hz
  have hq := eqb_false h2
  clear h2
  by_cases k1 : 2 ≤ m.size
  · have k1i : (2 : Int) ≤ (m.size : Int) := by omega
    have q1 : ∀ w, (Instr.slice 9 (.string m) none (some (.int .i64 2)) none).run Tryz.prog w = .ok (.string (m.extract 0 2)) w := fun w => slice_to m 2 w (by omega)
    have hp := star_pre2 k1
    cases hpp : Lib.hasPrefix m.data.toList [42, 46]
    · rw [hpp] at hp
      have HR := Lib.hid (show z = 0 from by rw [← hz]; unfold wildH; rw [hpp]; rfl)
      clear hz hpp k1
      generalize m.extract 0 2 = pf at *
      go_enter Tryz.func28, Tryz.ntmps28
      go_wp2
      go_region
      go_wp2
      go_ret
      exact ⟨by rw [HR.out]; rfl, (Chg.refl [] _).drew⟩
    · rw [hpp] at hp
      have hws := wild_size hpp
      by_cases k2 : m.size ≤ h.size
      · have k2i : (m.size : Int) ≤ (h.size : Int) := by omega
        have hen := ends_so k1 hpp k2
        have hwh : wildH m h = Lib.hasSuffix h.data.toList (dotW m).data.toList := by
          unfold wildH
          rw [hpp, decide_eq_true (by omega), Bool.true_and, Bool.and_true]
        rw [hwh] at hz
        obtain ⟨j, hj⟩ : ∃ j, h.size - m.size = j := ⟨_, rfl⟩
        have hji : (h.size : Int) - (m.size : Int) = (j : Int) := by omega
        have q2 := fun w => slice_from h (j + 1) w (by omega)
        have hj1 : ((j + 1 : Nat) : Int) = (j : Int) + 1 := by omega
        rw [hj1] at q2
        have q3 : ∀ w, (Instr.slice 9 (.string m) (some (.int .i64 1)) none none).run Tryz.prog w = .ok (.string (m.extract 1 m.size)) w := fun w => slice_from m 1 w (by omega)
        rw [hj] at hen
        have hjb : j ≤ 1048576 := by omega
        generalize m.extract 0 2 = pf at *
        generalize h.extract (j + 1) h.size = a1 at *
        generalize m.extract 1 m.size = a2 at *
        cases hs : Lib.hasSuffix h.data.toList (dotW m).data.toList
        · rw [hs] at hen hz
          have HR := Lib.hid (show z = 0 from hz.symm)
          clear hz hs hwh hpp hws hj hj1
          go_enter Tryz.func28, Tryz.ntmps28
          go_wp2
          go_region
          go_wp2
          go_ret
          exact ⟨by rw [HR.out]; rfl, (Chg.refl [] _).drew⟩
        · rw [hs] at hen hz
          have HR := Lib.hid (show z = 2 from hz.symm)
          clear hz hs hwh hpp hws hj hj1
          go_enter Tryz.func28, Tryz.ntmps28
          go_wp2
          go_region
          go_wp2
          go_ret
          exact ⟨by rw [HR.out]; rfl, (Chg.refl [] _).drew⟩
      · have k2i : ¬ (m.size : Int) ≤ (h.size : Int) := by omega
        have HR := Lib.hid (show z = 0 from by rw [← hz]; unfold wildH; rw [decide_eq_false (show ¬ (wildB m).size + 1 < h.size by omega), Bool.and_false, Bool.and_false]; rfl)
        have HD := Lib.hid (show decide ((m.size : Int) ≤ (h.size : Int)) = false from decide_eq_false k2i)
        clear hz hpp hws k1
        generalize m.extract 0 2 = pf at *
        go_enter Tryz.func28, Tryz.ntmps28
        go_wp2
        go_region
        go_wp2
        go_ret
        exact ⟨by rw [HR.out]; rfl, (Chg.refl [] _).drew⟩
  · have k1i : ¬ (2 : Int) ≤ (m.size : Int) := by omega
    have HR := Lib.hid (show z = 0 from by rw [← hz]; unfold wildH; rw [star_short k1]; rfl)
    have hs1 : (m.size : Int) = 1 := by omega
    clear hz k1 k1i h1
    go_enter Tryz.func28, Tryz.ntmps28
    go_wp2
    go_region
    go_wp2
    go_ret
    exact ⟨by rw [HR.out]; rfl, (Chg.refl [] _).drew⟩
end Go.Proofs.YtjndgkbikhndoaaGreatDoor
